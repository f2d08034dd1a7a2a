import Derived.Test.YgdaegDoorAggW
import Derived.Test.YgdaegDoorPlain
namespace Go.Proofs.YgdaegDoor
open Go.RowKit
set_option linter.unusedSimpArgs false
set_option linter.unusedVariables false
/-- A normal value. -/
def NV (v : V) : Prop := v.ok ∧ norm v = v
theorem NV_V0 : NV V0 := ⟨V0_ok, rfl⟩
theorem NV_int (n : Int) : NV (intV n) := ⟨V0_ok, rfl⟩
theorem NV_norm {v : V} (h : v.ok) : NV (norm v) := ⟨norm_ok h, norm_norm v⟩
theorem NV_real (o : Option Nat) (h : ∀ d, o = some d → d < 18446744073709551616) : NV (realR o) := ⟨realR_ok o h, realR_norm o⟩
theorem NV_add (a b : V) : NV (addV a b) := by
  unfold addV addN
  split
  · split
    · exact NV_int _
    · exact NV_real _ (fun d h => add_lt _ _ _ h)
  · exact NV_V0
theorem NV_div (a : V) (n : Int) : NV (divV a n) := by
  unfold divV
  split
  · split
    · exact NV_V0
    · exact NV_real _ (fun d h => div_lt _ _ _ h)
  · exact NV_V0
theorem NV_step (ag : Ag) (a : V) (n : Nat) (v : V) (ha : NV a) (hv : NV v) : NV (ag.step a n v).1 := by
  cases ag <;> simp only [Ag.step, stC, stS, stMin, stMax]
  · cases v.k == 0 <;> exact ha
  · cases numB v.k
    · exact ha
    · cases n == 0
      · exact NV_add _ _
      · exact hv
  · cases numB v.k
    · exact ha
    · cases n == 0
      · exact NV_add _ _
      · exact hv
  · cases v.k == 0
    · cases n == 0 || decide (cmpV v a < 0)
      · exact ha
      · exact hv
    · exact ha
  · cases v.k == 0
    · cases n == 0 || decide (0 < cmpV v a)
      · exact ha
      · exact hv
    · exact ha
theorem NV_fold (ag : Ag) : ∀ (vs : List V), (∀ v ∈ vs, NV v) → NV (foldA ag vs).1 := by
  unfold foldA
  have : ∀ (vs : List V) (p : V × Nat), NV p.1 → (∀ v ∈ vs, NV v) → NV (vs.foldl (fun p v => ag.step p.1 p.2 v) p).1 := by
    intro vs
    induction vs with
    | nil => intro p hp _; exact hp
    | cons v vs ih => intro p hp h; exact ih _ (NV_step ag _ _ _ hp (h v (by simp))) (fun x hx => h x (by simp [hx]))
  intro vs h
  exact this vs (V0, 0) NV_V0 h
theorem NV_agg (ag : Ag) (vs : List V) (h : ∀ v ∈ vs, NV v) : NV (aggV ag vs) := by
  unfold aggV
  have h1 := NV_fold ag vs h
  cases ag <;> simp only [Ag.fin]
  · exact NV_int _
  · cases (foldA Ag.sum vs).2 == 0
    · exact h1
    · exact NV_V0
  · cases (foldA Ag.avg vs).2 == 0
    · exact NV_div _ _
    · exact NV_V0
  · cases (foldA Ag.min vs).2 == 0
    · exact h1
    · exact NV_V0
  · cases (foldA Ag.max vs).2 == 0
    · exact h1
    · exact NV_V0
theorem snoc_ind {P : List V → Prop} (h0 : P []) (h1 : ∀ l v, P l → P (l ++ [v])) : ∀ l, P l := by
  intro l
  have : ∀ r : List V, P r.reverse := by
    intro r
    induction r with
    | nil => exact h0
    | cons v r ih => rw [List.reverse_cons]; exact h1 _ _ ih
  have h := this l.reverse
  rwa [List.reverse_reverse] at h
/-- The count is the same for count, min and max. -/
theorem fold_cnt (vs : List V) : (foldA .count vs).2 = (foldA .min vs).2 ∧ (foldA .max vs).2 = (foldA .min vs).2 := by
  induction vs using snoc_ind with
  | h0 => exact ⟨rfl, rfl⟩
  | h1 l v ih =>
    rw [foldA_snoc, foldA_snoc, foldA_snoc]
    obtain ⟨i1, i2⟩ := ih
    simp only [Ag.step, stC, stMin, stMax]
    rw [i1, i2]
    cases hk : v.k == 0
    · simp only [cond_false]
      refine ⟨?_, ?_⟩
      · cases ((foldA Ag.min l).2 == 0 || decide (cmpV v (foldA Ag.min l).1 < 0)) <;> rfl
      · cases ((foldA Ag.min l).2 == 0 || decide (0 < cmpV v (foldA Ag.max l).1)) <;> cases ((foldA Ag.min l).2 == 0 || decide (cmpV v (foldA Ag.min l).1 < 0)) <;> rfl
    · simp [i1, i2]
/-- The numbers among values. -/
def numsL (vs : List V) : List V := vs.filter fun v => numB v.k
/-- Their sum, one after another. -/
def sumL : List V → V
  | [] => V0
  | v :: r => r.foldl addV v
theorem sumL_snoc (l : List V) (v : V) : sumL (l ++ [v]) = if l.length = 0 then v else addV (sumL l) v := by
  cases l with
  | nil => rfl
  | cons a t => simp [sumL]
theorem fold_sum (vs : List V) : foldA .sum vs = (sumL (numsL vs), (numsL vs).length) ∧ foldA .avg vs = (sumL (numsL vs), (numsL vs).length) := by
  induction vs using snoc_ind with
  | h0 => exact ⟨rfl, rfl⟩
  | h1 l v ih =>
    rw [foldA_snoc, foldA_snoc, ih.1, ih.2]
    simp only [Ag.step, stS]
    have hn : numsL (l ++ [v]) = if numB v.k then numsL l ++ [v] else numsL l := by
      unfold numsL
      rw [List.filter_append]
      cases h : numB v.k <;> simp [List.filter, h]
    rw [hn]
    cases h : numB v.k
    · simp
    · simp only [cond_true, if_true]
      rw [sumL_snoc]
      by_cases h0 : (numsL l).length = 0
      · simp [h0]
      · have hb : ((numsL l).length == 0) = false := by simpa using h0
        rw [if_neg h0, hb]
        simp
/-- The law's own row of a group: gv the group's value, vs the values, n the rows. -/
def rowVal (gv : V) (n : Nat) (vs : List V) (t : Nat) : V :=
  if t = 0 then norm gv else if t = 1 then intV n else if t = 2 then aggV .count vs else if t = 3 then aggV .sum vs else if t = 4 then aggV .avg vs else if t = 5 then aggV .min vs else aggV .max vs
theorem row_cnt (vs : List V) : aggV .count vs = intV ((foldA .min vs).2 : Nat) := by
  unfold aggV
  rw [(fold_cnt vs).1]
  rfl
theorem fold_zero (ag : Ag) (h : ag = .min ∨ ag = .max) (vs : List V) (h0 : (foldA ag vs).2 = 0) : (foldA ag vs).1 = V0 := by
  revert h0
  induction vs using snoc_ind with
  | h0 => intro _; rfl
  | h1 l v ih =>
    rw [foldA_snoc]
    intro h0
    rcases h with rfl | rfl
    · simp only [Ag.step, stMin] at h0 ⊢
      cases hk : v.k == 0
      · rw [hk] at h0
        simp only [cond_false] at h0
        cases hc : ((foldA Ag.min l).2 == 0 || decide (cmpV v (foldA Ag.min l).1 < 0)) <;> rw [hc] at h0 <;> simp at h0
      · rw [hk] at h0
        exact ih h0
    · simp only [Ag.step, stMax] at h0 ⊢
      cases hk : v.k == 0
      · rw [hk] at h0
        simp only [cond_false] at h0
        cases hc : ((foldA Ag.max l).2 == 0 || decide (0 < cmpV v (foldA Ag.max l).1)) <;> rw [hc] at h0 <;> simp at h0
      · rw [hk] at h0
        exact ih h0
theorem row_min (vs : List V) : aggV .min vs = (foldA .min vs).1 := by
  unfold aggV
  simp only [Ag.fin]
  cases h : (foldA Ag.min vs).2 == 0
  · rfl
  · rw [fold_zero .min (.inl rfl) vs (by simpa using h)]; rfl
theorem row_max (vs : List V) : aggV .max vs = (foldA .max vs).1 := by
  unfold aggV
  simp only [Ag.fin]
  cases h : (foldA Ag.max vs).2 == 0
  · rfl
  · rw [fold_zero .max (.inr rfl) vs (by simpa using h)]; rfl
theorem row_sum (vs : List V) : aggV .sum vs = sumL (numsL vs) := by
  unfold aggV
  rw [(fold_sum vs).1]
  simp only [Ag.fin]
  cases h : numsL vs with
  | nil => rfl
  | cons a t => rfl
theorem row_avg (vs : List V) : aggV .avg vs = if (numsL vs).length = 0 then V0 else divV (toRealV (sumL (numsL vs))) (numsL vs).length := by
  unfold aggV
  rw [(fold_sum vs).2]
  simp only [Ag.fin]
  cases h : numsL vs with
  | nil => rfl
  | cons a t => rfl
theorem NV_row (gv : V) (n : Nat) (vs : List V) (hg : gv.ok) (h : ∀ v ∈ vs, NV v) (t : Nat) : NV (rowVal gv n vs t) := by
  unfold rowVal
  split
  · exact NV_norm hg
  · split
    · exact NV_int _
    · split
      · exact NV_agg _ _ h
      · split
        · exact NV_agg _ _ h
        · split
          · exact NV_agg _ _ h
          · split <;> exact NV_agg _ _ h
end Go.Proofs.YgdaegDoor
