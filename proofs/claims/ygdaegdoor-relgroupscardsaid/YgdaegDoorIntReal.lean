import Derived.Test.YgdaegDoorTrunc
namespace Go.Proofs.YgdaegDoor
open Go.RowKit
set_option linter.unusedSimpArgs false
set_option linter.unusedVariables false
def cmpS (x y : Bool) : Int := cond x (-1) (cond y 1 0)
def intRealV (i : Int) (r : Nat) : Int :=
  if fltB r m63 = true then 1 else if fltB r p63 = false then -1 else if i = truncN r then cmpS (fltB (itofN i) r) (fgtB (itofN i) r) else cmpS (decide (i < truncN r)) (decide (truncN r < i))
set_option maxRecDepth 20000 in
set_option maxHeartbeats 2000000 in
theorem intReal_any (i : Int) (r : Nat) (w : World) : Calls Yaed.prog 78 #[.int .i64 i, .float .f64 r] w fun x w' => x = .returned (.int .i8 (intRealV i r)) ∧ w' = w := by
  obtain ⟨res, hres⟩ : ∃ res, intRealV i r = res := ⟨_, rfl⟩
  rw [hres]
  have HR : Hid (intRealV i r = res) := hres
  clear hres
  go_enter Yaed.func78, Yaed.ntmps78
  go_wp2_with fail
  refine (flt_any r m63 _).mono ?_
  rintro e w1 ⟨rfl, rfl⟩
  obtain ⟨b1, h1⟩ : ∃ b, fltB r m63 = b := ⟨_, rfl⟩
  rw [h1]
  have H1 : Hid (fltB r m63 = b1) := h1
  clear h1
  cases b1 with
  | true =>
    go_wp2_with fail
    go_ret
    exact ⟨by rw [← HR.out]; simp [intRealV, H1.out], rfl⟩
  | false =>
    go_wp2_with fail
    refine (flt_any r p63 _).mono ?_
    rintro e w2 ⟨rfl, rfl⟩
    obtain ⟨b2, h2⟩ : ∃ b, fltB r p63 = b := ⟨_, rfl⟩
    rw [h2]
    have H2 : Hid (fltB r p63 = b2) := h2
    clear h2
    cases b2 with
    | false =>
      go_wp2_with fail
      go_ret
      exact ⟨by rw [← HR.out]; simp [intRealV, H1.out, H2.out], rfl⟩
    | true =>
      go_wp2_with fail
      have ht := trunc_in r H1.out H2.out
      refine (ftoi_any r (truncN r) ht.1 ht.2 _).mono ?_
      rintro e w3 ⟨rfl, rfl⟩
      clear ht
      obtain ⟨t, h3⟩ : ∃ t, truncN r = t := ⟨_, rfl⟩
      rw [h3]
      have H3 : Hid (truncN r = t) := h3
      clear h3
      by_cases h4 : i = t
      · have hne : (i != t) = false := by simp [h4]
        have H4 : Hid (i = t) := h4
        clear h4
        go_wp2_with fail
        refine (itof_any i _).mono ?_
        rintro e w4 ⟨rfl, rfl⟩
        go_wp2_with fail
        refine (flt_any (itofN i) r _).mono ?_
        rintro e w5 ⟨rfl, rfl⟩
        go_wp2_with fail
        refine (fgt_any (itofN i) r _).mono ?_
        rintro e w6 ⟨rfl, rfl⟩
        go_wp2_with fail
        refine (sign_any _ _ _).mono ?_
        rintro e w7 ⟨rfl, rfl⟩
        go_wp2_with fail
        go_ret
        exact ⟨by rw [← HR.out]; simp [intRealV, H1.out, H2.out, H3.out, H4.out, cmpS], rfl⟩
      · have hne : (i != t) = true := by simp [h4]
        go_wp2_with fail
        refine (sign_any _ _ _).mono ?_
        rintro e w5 ⟨rfl, rfl⟩
        go_wp2_with fail
        go_ret
        exact ⟨by rw [← HR.out]; simp [intRealV, H1.out, H2.out, H3.out, h4, cmpS], rfl⟩
def rankV (k : Int) : Int := if k = 0 then 0 else if k = 3 then 2 else 1
set_option maxHeartbeats 1000000 in
theorem rank_any (k : Int) (w : World) : Calls Yaed.prog 75 #[.int .u8 k] w fun r w' => r = .returned (.int .i64 (rankV k)) ∧ w' = w := by
  by_cases h0 : k = 0
  · subst h0
    go_enter Yaed.func75, Yaed.ntmps75
    go_wp2_with fail
    go_ret
    exact ⟨rfl, rfl⟩
  · by_cases h3 : k = 3
    · subst h3
      go_enter Yaed.func75, Yaed.ntmps75
      go_wp2_with fail
      go_ret
      exact ⟨rfl, rfl⟩
    · have e0 : (k == 0) = false := by simp [h0]
      have e3 : (k == 3) = false := by simp [h3]
      obtain ⟨res, hres⟩ : ∃ res, rankV k = res := ⟨_, rfl⟩
      have HR : Hid (rankV k = res) := hres
      rw [hres]
      clear hres
      go_enter Yaed.func75, Yaed.ntmps75
      go_wp2_with fail
      go_ret
      exact ⟨by rw [← HR.out]; simp [rankV, h0, h3], rfl⟩
end Go.Proofs.YgdaegDoor
