import Derived.Test.YgdaegDoorLast
import Derived.OrdersHeld
set_option linter.unusedSimpArgs false
set_option linter.unusedVariables false
namespace Go.Proofs.YgdaegDoor
open Go

/-- K at a normal end; nothing else is let. -/
def onlyN (K : Act → World → Prop) : Exit → Act → World → Prop
  | .normal, a, w => K a w
  | _, _, _ => False

section
variable {P : Program} {ops : Array Oper} {Q : Exit → Act → World → Prop} {S : World → Prop}

/-- A walk in one order: an operation that yields its value in every world that meets S (marked true), or one that is carried out here (S is shown anew behind it). -/
def wpCan (P : Program) (ops : Array Oper) (K : Act → World → Prop) (S : World → Prop) : List (Bool × Nat) → Act → World → Prop
  | [], a, w => K a w
  | (true, i) :: rest, a, w => ∃ o, ops[i]? = some o ∧ ∃ v, YieldsIf P ops S o v a ∧ wpCan P ops K S rest (a.put o.dst v) w
  | (false, i) :: rest, a, w => ∃ o, ops[i]? = some o ∧ Region.wanted o (yielded ops a.tmps) = true ∧ o.wp P a w (fun a' w' => S w' ∧ wpCan P ops K S rest a' w') (fun _ _ _ => False)

def canOK (ops : Array Oper) : List (Bool × Nat) → Array Bool → Bool
  | [], listed => (Region.ready .any ops listed).isEmpty
  | (true, i) :: rest, listed => Region.free .any ops listed i && (Region.ready .any ops listed).contains i && canOK ops rest (listed.setIfInBounds i true)
  | (false, i) :: rest, listed => (Region.ready .any ops listed == [i]) && canOK ops rest (listed.setIfInBounds i true)

theorem wpAnyH_of_can {K : Act → World → Prop} (hs : Region.noSelect ops = true) : ∀ (ord : List (Bool × Nat)) (fuel : Nat) (listed : Array Bool) (a : Act) (w : World),
    ord.length ≤ fuel → canOK ops ord listed = true → S w → wpCan P ops K S ord a w → wpAnyH P .any ops (onlyN K) S fuel listed a w := by
  intro ord
  induction ord with
  | nil =>
    intro fuel listed a w _ hok _ h
    exact wpAnyH_done (by simpa [canOK] using hok) h fuel
  | cons p rest ih =>
    intro fuel listed a w hf hok hS h
    obtain ⟨b, i⟩ := p
    obtain ⟨fuel, rfl⟩ : ∃ f, fuel = f + 1 := ⟨fuel - 1, by simp at hf; omega⟩
    have hf' : rest.length ≤ fuel := by simp at hf; omega
    cases b with
    | true =>
      simp only [canOK, Bool.and_eq_true] at hok
      obtain ⟨o, ho, v, hy, h⟩ := h
      exact wpAnyH_take ho hs hok.1.1 hok.1.2 (fun _ _ _ h => h) hy hS (ih fuel _ _ w hf' hok.2 hS h)
    | false =>
      simp only [canOK, Bool.and_eq_true, beq_iff_eq] at hok
      obtain ⟨o, ho, hw, h⟩ := h
      refine wpAnyH_all hok.1 (by simp) (fun j hj => ?_)
      have hj : j = i := by simpa using hj
      subst hj
      unfold wpOp
      simp only [ho]
      rw [if_pos hw]
      refine .inl ?_
      have h2 := Oper.wp_mono (K' := fun a' w' => S w' ∧ wpAnyH P .any ops (onlyN K) S fuel (listed.setIfInBounds j true) a' w') (fun a' w' hh => ⟨hh.1, ih fuel _ a' w' hf' hok.2 hh.1 hh.2⟩) h
      unfold Oper.wp at h2 ⊢
      generalize (execOp a.eval o).run P w = r at h2 ⊢
      cases r with
      | ok n w' =>
        cases n <;> first
          | exact h2
          | (refine Calls.mono h2 fun e w'' he => ?_
             cases e with
             | returned v => exact he
             | panicked c => exact he.elim
             | outgrown => obtain ⟨_, _, h3⟩ := he; exact h3.elim)
      | halt x w' => cases x <;> first | exact h2 | exact h2.elim

theorem wp_region_can {l t : List Oper} {id : Nat} {a : Act} {w : World} (ord : List (Bool × Nat)) (S : World → Prop) (hm : P.follows .mixedOrders = true)
    (hok : (tailOK l t && Region.noSelect l.toArray && canOK l.toArray ord (Array.replicate l.toArray.size false) && decide (ord.length ≤ l.toArray.size)) = true) (hS : S w.drew)
    (h : wpCan P l.toArray (wpList P #[] Q t) S ord a w.drew) :
    (Code.region id (l ++ t).toArray true).wp P Q a w := by
  simp only [Bool.and_eq_true, decide_eq_true_eq] at hok
  refine wp_region_tail hm hok.1.1.1 ?_
  refine wpAny_Qmono (fun e a w hq => ?_) _ _ _ _ (wpAny_of_held _ _ _ _ (wpAnyH_of_can hok.1.1.2 ord _ _ a w.drew hok.2 hok.1.2 hS h))
  cases e with
  | normal => exact hq
  | _ => exact hq.elim

/-- What is listed when the operations of ord have come up; none where one could not. -/
def canTo (ops : Array Oper) : List (Bool × Nat) → Array Bool → Option (Array Bool)
  | [], listed => some listed
  | (true, i) :: rest, listed => if Region.free .any ops listed i && (Region.ready .any ops listed).contains i then canTo ops rest (listed.setIfInBounds i true) else none
  | (false, i) :: rest, listed => if Region.ready .any ops listed == [i] then canTo ops rest (listed.setIfInBounds i true) else none

/-- The same walk up to a point where several may come up. -/
theorem wpAnyH_to_can {K : Act → World → Prop} (hs : Region.noSelect ops = true) : ∀ (ord : List (Bool × Nat)) (fuel : Nat) (listed listed' : Array Bool) (a : Act) (w : World),
    canTo ops ord listed = some listed' → S w → wpCan P ops (fun a w => S w → wpAnyH P .any ops (onlyN K) S fuel listed' a w) S ord a w → wpAnyH P .any ops (onlyN K) S (fuel + ord.length) listed a w := by
  intro ord
  induction ord with
  | nil =>
    intro fuel listed listed' a w hok hS h
    simp only [canTo, Option.some.injEq] at hok
    subst hok
    exact h hS
  | cons p rest ih =>
    intro fuel listed listed' a w hok hS h
    obtain ⟨b, i⟩ := p
    rw [List.length_cons, ← Nat.add_assoc]
    cases b with
    | true =>
      simp only [canTo] at hok
      split at hok
      · rename_i hc
        simp only [Bool.and_eq_true] at hc
        obtain ⟨o, ho, v, hy, h⟩ := h
        exact wpAnyH_take ho hs hc.1 hc.2 (fun _ _ _ h => h) hy hS (ih fuel _ _ _ w hok hS h)
      · cases hok
    | false =>
      simp only [canTo] at hok
      split at hok
      · rename_i hc
        have hc' := beq_iff_eq.1 hc
        obtain ⟨o, ho, hw, h⟩ := h
        refine wpAnyH_all hc' (by simp) (fun j hj => ?_)
        have hj : j = i := by simpa using hj
        subst hj
        unfold wpOp
        simp only [ho]
        rw [if_pos hw]
        refine .inl ?_
        have h2 := Oper.wp_mono (K' := fun a' w' => S w' ∧ wpAnyH P .any ops (onlyN K) S (fuel + rest.length) (listed.setIfInBounds j true) a' w') (fun a' w' hh => ⟨hh.1, ih fuel _ _ a' w' hok hh.1 hh.2⟩) h
        unfold Oper.wp at h2 ⊢
        generalize (execOp a.eval o).run P w = r at h2 ⊢
        cases r with
        | ok n w' =>
          cases n <;> first
            | exact h2
            | (refine Calls.mono h2 fun e w'' he => ?_
               cases e with
               | returned v => exact he
               | panicked c => exact he.elim
               | outgrown => obtain ⟨_, _, h3⟩ := he; exact h3.elim)
        | halt x w' => cases x <;> first | exact h2 | exact h2.elim
      · cases hok

/-- A region whose operations branch: the walk up to the branch. -/
theorem wp_region_to {l t : List Oper} {id : Nat} {a : Act} {w : World} (ord : List (Bool × Nat)) (S : World → Prop) (listed' : Array Bool) (hm : P.follows .mixedOrders = true)
    (hok : (tailOK l t && Region.noSelect l.toArray && (canTo l.toArray ord (Array.replicate l.toArray.size false) == some listed') && decide (ord.length ≤ l.toArray.size)) = true) (hS : S w.drew)
    (h : wpCan P l.toArray (fun a w => S w → wpAnyH P .any l.toArray (onlyN (wpList P #[] Q t)) S (l.toArray.size - ord.length) listed' a w) S ord a w.drew) :
    (Code.region id (l ++ t).toArray true).wp P Q a w := by
  simp only [Bool.and_eq_true, decide_eq_true_eq] at hok
  refine wp_region_tail hm hok.1.1.1 ?_
  have hk := wpAnyH_to_can (K := wpList P #[] Q t) hok.1.1.2 ord (l.toArray.size - ord.length) _ listed' a w.drew (beq_iff_eq.1 hok.1.2) hS h
  rw [Nat.sub_add_cancel hok.2] at hk
  refine wpAny_Qmono (fun e a w hq => ?_) _ _ _ _ (wpAny_of_held _ _ _ _ hk)
  cases e with
  | normal => exact hq
  | _ => exact hq.elim

/-- One of those that may come up is carried out. -/
theorem wpAnyH_branch {l : List Oper} {K : Act → World → Prop} {fuel : Nat} {listed : Array Bool} {a : Act} {w : World} (rs : List Nat) (hr : Region.ready .any l.toArray listed = rs) (hne : rs ≠ [])
    (h : ∀ i ∈ rs, ∃ o, l[i]? = some o ∧ Region.wanted o (yielded l.toArray a.tmps) = true ∧ o.wp P a w (fun a' w' => S w' ∧ wpAnyH P .any l.toArray (onlyN K) S fuel (listed.setIfInBounds i true) a' w') (fun _ _ _ => False)) :
    wpAnyH P .any l.toArray (onlyN K) S (fuel + 1) listed a w := by
  refine wpAnyH_all hr hne (fun j hj => ?_)
  obtain ⟨o, ho, hw, h2⟩ := h j hj
  unfold wpOp
  have ho' : l.toArray[j]? = some o := by simpa using ho
  simp only [ho']
  rw [if_pos hw]
  refine .inl ?_
  unfold Oper.wp at h2 ⊢
  generalize (execOp a.eval o).run P w = r at h2 ⊢
  cases r with
  | ok n w' =>
    cases n <;> first
      | exact h2
      | (refine Calls.mono h2 fun e w'' he => ?_
         cases e with
         | returned v => exact he
         | panicked c => exact he.elim
         | outgrown => obtain ⟨_, _, h3⟩ := he; exact h3.elim)
  | halt x w' => cases x <;> first | exact h2 | exact h2.elim
/-- .. for two that may come up. -/
theorem wpAnyH_two {l : List Oper} {K : Act → World → Prop} {fuel : Nat} {listed : Array Bool} {a : Act} {w : World} {i j : Nat} {o o' : Oper} (hr : Region.ready .any l.toArray listed = [i, j])
    (ho : l[i]? = some o) (hw : Region.wanted o (yielded l.toArray a.tmps) = true) (ho' : l[j]? = some o') (hw' : Region.wanted o' (yielded l.toArray a.tmps) = true)
    (h : ∀ K' : Act → World → Prop, (∀ a' w', S w' ∧ wpAnyH P .any l.toArray (onlyN K) S fuel (listed.setIfInBounds i true) a' w' → K' a' w') → o.wp P a w K' (fun _ _ _ => False))
    (h' : ∀ K' : Act → World → Prop, (∀ a' w', S w' ∧ wpAnyH P .any l.toArray (onlyN K) S fuel (listed.setIfInBounds j true) a' w' → K' a' w') → o'.wp P a w K' (fun _ _ _ => False)) :
    wpAnyH P .any l.toArray (onlyN K) S (fuel + 1) listed a w := by
  refine wpAnyH_branch [i, j] hr (by simp) (fun k hk => ?_)
  have : k = i ∨ k = j := by simpa using hk
  rcases this with rfl | rfl
  · exact ⟨o, ho, hw, h _ (fun _ _ h => h)⟩
  · exact ⟨o', ho', hw', h' _ (fun _ _ h => h)⟩

theorem wpCan_nil {K : Act → World → Prop} {a : Act} {w : World} (h : K a w) : wpCan P ops K S [] a w := h

variable {l : List Oper}
theorem getl {i : Nat} {o : Oper} (ho : l[i]? = some o) : l.toArray[i]? = some o := by simpa using ho
/-- An operation without a guard that only looks. -/
theorem wpCan_q {K : Act → World → Prop} {a : Act} {w : World} {i : Nat} {o : Oper} {v : Value} {d : Tmp} {rest : List (Bool × Nat)} (ho : l[i]? = some o) (hg : o.guard = none) (hd : o.dst = some d)
    (hy : ∀ W, S W → (execOp a.eval o).run P W = .ok (.value v) W) (h : wpCan P l.toArray K S rest (a.put (some d) v) w) : wpCan P l.toArray K S ((true, i) :: rest) a w :=
  ⟨o, getl ho, v, .inl ⟨by simp [Region.wanted, hg], hy⟩, hd ▸ h⟩
/-- An operation whose guard says yes. -/
theorem wpCan_qg {K : Act → World → Prop} {a : Act} {w : World} {i : Nat} {o : Oper} {v : Value} {d : Tmp} {rest : List (Bool × Nat)} (ho : l[i]? = some o) (hd : o.dst = some d) (hw : Region.wanted o (yielded l.toArray a.tmps) = true)
    (hy : ∀ W, S W → (execOp a.eval o).run P W = .ok (.value v) W) (h : wpCan P l.toArray K S rest (a.put (some d) v) w) : wpCan P l.toArray K S ((true, i) :: rest) a w :=
  ⟨o, getl ho, v, .inl ⟨hw, hy⟩, hd ▸ h⟩
/-- An operation whose guard says no. -/
theorem wpCan_skip {K : Act → World → Prop} {a : Act} {w : World} {i : Nat} {o : Oper} {d : Tmp} {rest : List (Bool × Nat)} (ho : l[i]? = some o) (hd : o.dst = some d) (hw : Region.wanted o (yielded l.toArray a.tmps) = false)
    (h : wpCan P l.toArray K S rest (a.put (some d) undef) w) : wpCan P l.toArray K S ((true, i) :: rest) a w :=
  ⟨o, getl ho, undef, .inr ⟨hw, rfl⟩, hd ▸ h⟩
/-- An operation that is carried out. -/
theorem wpCan_e {K : Act → World → Prop} {a : Act} {w : World} {i : Nat} {o : Oper} {rest : List (Bool × Nat)} (ho : l[i]? = some o) (hg : o.guard = none)
    (h : ∀ K' : Act → World → Prop, (∀ a' w', S w' ∧ wpCan P l.toArray K S rest a' w' → K' a' w') → o.wp P a w K' (fun _ _ _ => False)) : wpCan P l.toArray K S ((false, i) :: rest) a w :=
  ⟨o, getl ho, by simp [Region.wanted, hg], h _ (fun _ _ h => h)⟩
theorem wpCan_eg {K : Act → World → Prop} {a : Act} {w : World} {i : Nat} {o : Oper} {rest : List (Bool × Nat)} (ho : l[i]? = some o) (hw : Region.wanted o (yielded l.toArray a.tmps) = true)
    (h : ∀ K' : Act → World → Prop, (∀ a' w', S w' ∧ wpCan P l.toArray K S rest a' w' → K' a' w') → o.wp P a w K' (fun _ _ _ => False)) : wpCan P l.toArray K S ((false, i) :: rest) a w :=
  ⟨o, getl ho, hw, h _ (fun _ _ h => h)⟩
end
end Go.Proofs.YgdaegDoor
