import Derived.Test.YgdaegDoorStmt2
set_option linter.unusedSimpArgs false
set_option linter.unusedVariables false
namespace Go.Proofs.YgdaegDoor
open Go.RowKit

theorem nanB_iff (n : Nat) (h : n < 18446744073709551616) : nanB n = decide (9218868437227405312 < n % 9223372036854775808) := by
  have e : Go.bits BinOp.andNot IntKind.u64 (n : Int) 9223372036854775808 = ((n % 9223372036854775808 : Nat) : Int) := by
    have h1 := u64_andNot_nat n 9223372036854775808 h (by decide)
    have h2 : (18446744073709551615 - 9223372036854775808 : Nat) = 2 ^ 63 - 1 := by decide
    rw [h2, Nat.and_two_pow_sub_one_eq_mod] at h1
    have h3 : (2 : Nat) ^ 63 = 9223372036854775808 := by decide
    rw [h3] at h1
    exact h1
  unfold nanB
  rw [e]
  exact decide_eq_decide.2 (by omega)

theorem floatEq_self (n : Nat) (h : n < 18446744073709551616) (hn : nanB n = false) : Op.floatEq .f64 n n = true := by
  rw [nanB_iff n h] at hn
  have hn' : n % 9223372036854775808 ≤ 9218868437227405312 := by simpa using hn
  have hsw : Ieee.double.signWeight = 9223372036854775808 := by decide
  have hir : Ieee.double.infRung = 9218868437227405312 := by decide
  have key : ∀ d : Ieee.Datum, d.isNaN = false → d.order d = some .eq := by
    intro d hd
    cases d with
    | number s m i => simp [Ieee.Datum.order]
    | infinity s => simp [Ieee.Datum.order]
    | nan s f => simp [Ieee.Datum.isNaN] at hd
  unfold Op.floatEq
  show (Ieee.double.order n n == some .eq) = true
  unfold Ieee.Format.order
  rw [key]
  · rfl
  · unfold Ieee.Format.read
    rw [hsw, hir]
    simp only
    split
    · rfl
    · split
      · rfl
      · split
        · rfl
        · omega

def V.ok (v : V) : Prop := v.r < 18446744073709551616
theorem V0_ok : V0.ok := by unfold V.ok V0; decide
theorem norm_ok {v : V} (h : v.ok) : (norm v).ok := by
  unfold norm
  split
  · exact V0_ok
  · split
    · split
      · exact V0_ok
      · split
        · exact V0_ok
        · exact h
    · split
      · split
        · exact V0_ok
        · split
          · exact V0_ok
          · exact V0_ok
      · exact V0_ok
theorem normal_feq {v : V} (h : v.ok) (hv : norm v = v) : Op.floatEq .f64 v.r v.r = true := by
  have h0 : Op.floatEq .f64 0 0 = true := floatEq_self 0 (by decide) nanB_zero
  rw [← hv]
  unfold norm
  split
  · exact h0
  · split
    · split
      · exact h0
      · rename_i hnan
        split
        · exact h0
        · exact floatEq_self _ h (by simpa using hnan)
    · split
      · split
        · exact h0
        · split
          · exact h0
          · exact h0
      · exact h0


theorem beq_refl_ba (s : ByteArray) : (s.toList == s.toList) = true := beq_iff_eq.2 rfl
def veq (x y : V) : Bool := x.k == y.k && x.i == y.i && Op.floatEq .f64 x.r y.r && x.s.toList == y.s.toList
theorem veq_self {v : V} (h : v.ok) (hv : norm v = v) : veq v v = true := by simp [veq, normal_feq h hv]
theorem run_equalIn_float {P : Program} (w : World) (d : Nat) (t : TypeId) (k k' : FloatKind) (a b : Nat) (h : P.underlying t = some (.float k')) :
    (Op.equalIn (d + 1) t (.float k a) (.float k b)).run P w = .ok (Op.floatEq k a b) w := by
  simp [Op.equalIn, run_underlying h]
theorem veqIn_run (x y : V) (w : World) : (Op.equalIn 10000 100 x.val y.val).run Yaed.prog w = .ok (veq x y) w := by
  unfold V.val
  have ht : Yaed.prog.underlying 100 = some (.struct (Yaed.prog.fieldsOf 100)) := by kernel_rfl
  have hf := Yaed.underlying100
  rw [ht] at hf
  simp only [Option.some.injEq, TypeDesc.struct.injEq] at hf
  rw [show (10000 : Nat) = 9999 + 1 from rfl, run_equalIn_agg w 9999 100 _ _ ht (by kernel_rfl), hf]
  simp only [Op.eqFields]
  simp [go_sem, part]
  rw [show (9999 : Nat) = 9998 + 1 from rfl, run_equalIn_float w 9998 98 .f64 .f64 _ _ Yaed.underlying98]
  unfold veq
  by_cases h1 : x.k = y.k
  · by_cases h2 : x.i = y.i
    · cases h3 : Op.floatEq .f64 x.r y.r
      · simp [h1, h2]
      · by_cases h4 : x.s.toList = y.s.toList
        · simp [h1, h2, h4]
        · have h5 : (x.s.toList == y.s.toList) = false := by simpa using h4
          simp [h1, h2, h4]
    · simp [h1, h2]
  · simp [h1]
theorem veq_run (x y : V) (w : World) : (binOp .eql 100 x.val y.val).run Yaed.prog w = .ok (.bool (veq x y)) w := by
  have h := run_eql_struct (P := Yaed.prog) w 100 #[.int .u8 x.k, .int .i64 x.i, .float .f64 x.r, .string x.s] #[.int .u8 y.k, .int .i64 y.i, .float .f64 y.r, .string y.s]
  have h2 := veqIn_run x y w
  unfold V.val at h2 ⊢
  rw [h, h2]
  rfl
theorem vne_run (x y : V) (w : World) : (binOp .neq 100 x.val y.val).run Yaed.prog w = .ok (.bool (!veq x y)) w := by
  have h := run_neq_struct (P := Yaed.prog) w 100 #[.int .u8 x.k, .int .i64 x.i, .float .f64 x.r, .string x.s] #[.int .u8 y.k, .int .i64 y.i, .float .f64 y.r, .string y.s]
  have h2 := veqIn_run x y w
  unfold V.val at h2 ⊢
  rw [h, h2]
  rfl
end Go.Proofs.YgdaegDoor
