import Derived.Test.YgdaegDoorFlo
namespace Go.Proofs.YgdaegDoor
open Go.RowKit
set_option linter.unusedSimpArgs false
set_option linter.unusedVariables false
def m63 : Nat := 14114281232179134464
def p63 : Nat := 4890909195324358656
def truncN (r : Nat) : Int := ((FloatKind.f64.decode r).toInt .zero).getD 0
theorem cut_le (s : Bool) (n drop : Nat) : Ieee.Toward.zero.cut s n drop ≤ n / 2 ^ drop := by
  unfold Ieee.Toward.cut
  simp only [Bool.toNat_false, Nat.add_zero, Nat.one_shiftLeft]
  rcases Nat.le_total drop (n.log2 + 2) with h | h
  · rw [Nat.min_eq_left h]
    exact Nat.le_refl _
  · rw [Nat.min_eq_right h]
    have h1 : n < 2 ^ (n.log2 + 2) := Nat.lt_of_lt_of_le (Nat.lt_log2_self) (Nat.pow_le_pow_right (by decide) (by omega))
    rw [Nat.div_eq_of_lt h1]
    exact Nat.zero_le _
theorem cut_bound (s : Bool) (m : Nat) (i : Int) (c : Nat) (h : m * 2 ^ (i - min i 11).toNat ≤ c * 2 ^ (11 - min i 11).toNat) : Ieee.Toward.zero.cut s (m <<< i.toNat) (-i).toNat ≤ c * 2 ^ 11 := by
  refine Nat.le_trans (cut_le _ _ _) ?_
  rw [Nat.shiftLeft_eq]
  rcases Int.le_total 11 i with h1 | h1
  · have e1 : min i 11 = 11 := Int.min_eq_right h1
    rw [e1] at h
    have e2 : (-i).toNat = 0 := by omega
    have e3 : i.toNat = (i - 11).toNat + 11 := by omega
    rw [e2, Nat.pow_zero, Nat.div_one, e3, Nat.pow_add, ← Nat.mul_assoc]
    refine Nat.mul_le_mul_right _ ?_
    simpa using h
  · have e1 : min i 11 = i := Int.min_eq_left h1
    rw [e1] at h
    have e0 : (i - i).toNat = 0 := by omega
    rw [e0, Nat.pow_zero, Nat.mul_one] at h
    rcases Int.le_total 0 i with h2 | h2
    · have e2 : (-i).toNat = 0 := by omega
      rw [e2, Nat.pow_zero, Nat.div_one]
      have e3 : (11 - i).toNat + i.toNat = 11 := by omega
      calc m * 2 ^ i.toNat ≤ c * 2 ^ (11 - i).toNat * 2 ^ i.toNat := Nat.mul_le_mul_right _ h
        _ = c * 2 ^ 11 := by rw [Nat.mul_assoc, ← Nat.pow_add, e3]
    · have e2 : i.toNat = 0 := by omega
      rw [e2, Nat.pow_zero, Nat.mul_one]
      have e3 : (11 - i).toNat = 11 + (-i).toNat := by omega
      rw [e3, Nat.pow_add, ← Nat.mul_assoc] at h
      exact Nat.div_le_of_le_mul (by rw [Nat.mul_comm]; exact h)
theorem cut_bound_lt (s : Bool) (m : Nat) (i : Int) (c : Nat) (hc : 0 < c) (h : m * 2 ^ (i - min i 11).toNat < c * 2 ^ (11 - min i 11).toNat) : Ieee.Toward.zero.cut s (m <<< i.toNat) (-i).toNat < c * 2 ^ 11 := by
  refine Nat.lt_of_le_of_lt (cut_le _ _ _) ?_
  rw [Nat.shiftLeft_eq]
  rcases Int.le_total 11 i with h1 | h1
  · have e1 : min i 11 = 11 := Int.min_eq_right h1
    rw [e1] at h
    have e2 : (-i).toNat = 0 := by omega
    have e3 : i.toNat = (i - 11).toNat + 11 := by omega
    rw [e2, Nat.pow_zero, Nat.div_one, e3, Nat.pow_add, ← Nat.mul_assoc]
    refine Nat.mul_lt_mul_of_pos_right ?_ (by decide)
    simpa using h
  · have e1 : min i 11 = i := Int.min_eq_left h1
    rw [e1] at h
    have e0 : (i - i).toNat = 0 := by omega
    rw [e0, Nat.pow_zero, Nat.mul_one] at h
    rcases Int.le_total 0 i with h2 | h2
    · have e2 : (-i).toNat = 0 := by omega
      rw [e2, Nat.pow_zero, Nat.div_one]
      have e3 : (11 - i).toNat + i.toNat = 11 := by omega
      calc m * 2 ^ i.toNat < c * 2 ^ (11 - i).toNat * 2 ^ i.toNat := Nat.mul_lt_mul_of_pos_right h (Nat.pow_pos (by decide))
        _ = c * 2 ^ 11 := by rw [Nat.mul_assoc, ← Nat.pow_add, e3]
    · have e2 : i.toNat = 0 := by omega
      rw [e2, Nat.pow_zero, Nat.mul_one]
      have e3 : (11 - i).toNat = 11 + (-i).toNat := by omega
      rw [e3, Nat.pow_add, ← Nat.mul_assoc] at h
      exact Nat.div_lt_of_lt_mul (by rw [Nat.mul_comm]; exact h)
theorem read_p63 : FloatKind.f64.format.read p63 = .number false 4503599627370496 11 := by decide
theorem read_m63 : FloatKind.f64.format.read m63 = .number true 4503599627370496 11 := by decide
set_option maxRecDepth 10000 in
theorem trunc_in (r : Nat) (h1 : fltB r m63 = false) (h2 : fltB r p63 = true) : (FloatKind.f64.decode r).toInt .zero = some (truncN r) ∧ IntKind.i64.min ≤ truncN r ∧ truncN r ≤ IntKind.i64.max := by
  have hmin : IntKind.i64.min = -9223372036854775808 := by decide
  have hmax : IntKind.i64.max = 9223372036854775807 := by decide
  rw [hmin, hmax]
  unfold fltB fOrd Ieee.Format.order at h1 h2
  rw [read_m63] at h1
  rw [read_p63] at h2
  unfold truncN FloatKind.decode
  generalize FloatKind.f64.format.read r = d at h1 h2 ⊢
  cases d with
  | nan s f => simp [Ieee.Datum.order] at h2
  | infinity s => cases s <;> simp [Ieee.Datum.order] at h1 h2
  | number s m i =>
    simp only [Ieee.Datum.toInt, Ieee.Datum.integral, Option.getD_some, true_and]
    simp only [Ieee.Datum.order, Ieee.signed, Nat.shiftLeft_eq] at h1 h2
    cases s with
    | false =>
      have h3 : m * 2 ^ (i - min i 11).toNat < 4503599627370496 * 2 ^ (11 - min i 11).toNat := by
        simp only [Bool.false_eq_true, if_false] at h2
        have h5 := Int.compare_eq_lt.1 (Option.some.inj (beq_iff_eq.1 h2))
        exact Int.ofNat_lt.1 h5
      have h4 := cut_bound_lt false m i 4503599627370496 (by decide) h3
      simp only [Ieee.signed, Bool.false_eq_true, if_false, Nat.shiftLeft_zero]
      omega
    | true =>
      have h3 : m * 2 ^ (i - min i 11).toNat ≤ 4503599627370496 * 2 ^ (11 - min i 11).toNat := by
        simp only [if_true] at h1
        have h5 : ¬ (-((m * 2 ^ (i - min i 11).toNat : Nat) : Int) < -((4503599627370496 * 2 ^ (11 - min i 11).toNat : Nat) : Int)) := fun hlt => by
          rw [Int.compare_eq_lt.2 hlt] at h1
          cases h1
        omega
      have h4 := cut_bound true m i 4503599627370496 h3
      simp only [Ieee.signed, if_true, Nat.shiftLeft_zero]
      omega
end Go.Proofs.YgdaegDoor
