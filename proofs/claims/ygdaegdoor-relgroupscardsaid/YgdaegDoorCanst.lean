import Derived.Test.YgdaegDoorCan
set_option linter.unusedSimpArgs false
set_option linter.unusedVariables false
namespace Go.Proofs.YgdaegDoor
open Go
section
variable {P : Program} {ops : Array Oper} {Q : Exit → Act → World → Prop} {S : World → Prop} {st : Nat}

/-- Any order; S holds behind each operation as long as st has not come up. -/
def wpAnyG (P : Program) (ops : Array Oper) (Q : Exit → Act → World → Prop) (S : World → Prop) (st : Nat) : Nat → Array Bool → Act → World → Prop
  | 0, L, a, w => Region.ready .any ops L = [] ∧ Q .normal a w
  | fuel + 1, L, a, w => (Region.ready .any ops L = [] → Q .normal a w) ∧
    ∀ i ∈ Region.ready .any ops L, wpOp P ops Q i (fun a' w' => ((L.setIfInBounds i true).getD st true = false → S w') ∧ wpAnyG P ops Q S st fuel (L.setIfInBounds i true) a' w') a w
theorem wpAny_of_G : ∀ (fuel : Nat) (L : Array Bool) (a : Act) (w : World), wpAnyG P ops Q S st fuel L a w → wpAny P .any ops Q fuel L a w
  | 0, _, _, _, h => h
  | fuel + 1, _, _, _, h => ⟨h.1, fun i hi => wpOp_mono (fun a' w' h' => wpAny_of_G fuel _ a' w' h'.2) (h.2 i hi)⟩
/-- st waits for i. -/
def waitB (ops : Array Oper) (st i : Nat) : Bool := match ops[st]? with
  | some o => o.after.any fun e => Region.binds .any e && e.on == i
  | none => false
/-- What an operation may lean on: S where st waits for it. -/
def SW (ops : Array Oper) (S : World → Prop) (st i : Nat) (w : World) : Prop := waitB ops st i = true → S w
theorem wpAnyG_first {i : Nat} {oi : Oper} {v : Value} (hi : ops[i]? = some oi) (hsel : ∀ (j : Nat) (o : Oper) cs b, ops[j]? = some o → o.op ≠ .select cs b) (hQ : ∀ c a w, Q (.panic c) (a.put oi.dst v) w → Q (.panic c) a w) (his : i ≠ st) :
    ∀ (fuel : Nat) (L : Array Bool) (a : Act) (w : World),
      (∀ j oj, ops[j]? = some oj → j ≠ i → L.getD j true = false → (∀ e ∈ oj.after, Region.binds .any e = true → e.on ≠ i) → oi.apart ops oj = true) →
      i ∈ Region.ready .any ops L → YieldsIf P ops (SW ops S st i) oi v a → (L.getD st true = false → S w) → (waitB ops st i = true → L.getD st true = false) →
      wpAnyG P ops Q S st fuel (L.setIfInBounds i true) (a.put oi.dst v) w → wpAnyG P ops Q S st (fuel + 1) L a w := by
  intro fuel
  induction fuel with
  | zero =>
    intro L a w _ hr hy hS hwt H
    refine ⟨fun h => (by rw [h] at hr; cases hr), fun j hj => ?_⟩
    by_cases hji : j = i
    · subst hji
      exact hy.wpOp hi (fun hw => hS (hwt hw)) ⟨fun h => hS (by rwa [getD_set_ne true his] at h), H⟩
    · have := ready_mono hj hji
      rw [H.1] at this
      cases this
  | succ fuel ih =>
    intro L a w hfree hr hy hS hwt H
    refine ⟨fun h => (by rw [h] at hr; cases hr), fun j hj => ?_⟩
    by_cases hji : j = i
    · subst hji
      exact hy.wpOp hi (fun hw => hS (hwt hw)) ⟨fun h => hS (by rwa [getD_set_ne true his] at h), H⟩
    · have h1 := H.2 j (ready_mono hj hji)
      obtain ⟨hjun, oj, hoj, hall⟩ := mem_ready.1 hj
      have hiun : L.getD i true = false := (mem_ready.1 hr).1
      have hnot : ∀ e ∈ oj.after, Region.binds .any e = true → e.on ≠ i := fun e he hb heq => by
        have h2 := hall e he hb
        rw [heq] at h2
        rcases Nat.lt_or_ge i L.size with h' | h'
        · simp [h'] at hiun h2; rw [hiun] at h2; cases h2
        · simp [Array.getElem?_eq_none h'] at h2
      have hwt' : waitB ops st i = true → (L.setIfInBounds j true).getD st true = false := fun hw => by
        have hjs : j ≠ st := fun e => by
          subst e
          unfold waitB at hw
          rw [hoj] at hw
          obtain ⟨e, he, hb⟩ := Array.any_eq_true'.1 hw
          simp only [Bool.and_eq_true, beq_iff_eq] at hb
          exact hnot e he hb.1 hb.2
        rw [getD_set_ne true hjs]
        exact hwt hw
      have h2 := wpOp_putIf hoj (hfree j oj hoj hji hjun hnot) (fun cs b => hsel i oi cs b hi) (fun cs b => hsel j oj cs b hoj) hQ hy h1
      have hfree' : ∀ k ok, ops[k]? = some ok → k ≠ i → (L.setIfInBounds j true).getD k true = false → (∀ e ∈ ok.after, Region.binds .any e = true → e.on ≠ i) → oi.apart ops ok = true := fun k ok hk hki hun hno => by
        refine hfree k ok hk hki ?_ hno
        by_cases hjk : j = k
        · subst hjk; exact hjun
        · rw [getD_set_ne true hjk] at hun; exact hun
      refine wpOp_mono (fun a' w' h3 => ?_) h2
      have hS' : (L.setIfInBounds j true).getD st true = false → S w' := fun h => h3.2.1 (by rw [Array.setIfInBounds_comm _ _ (Ne.symm hji), getD_set_ne true his]; exact h)
      refine ⟨hS', ih (L.setIfInBounds j true) a' w' hfree' (ready_mono hr (Ne.symm hji)) h3.1 hS' hwt' ?_⟩
      rw [Array.setIfInBounds_comm _ _ hji]
      exact h3.2.2

/-- A walk in one order; st is carried out, and S is not asked behind it. -/
def wpCanG (P : Program) (ops : Array Oper) (K : Act → World → Prop) (S : World → Prop) (st : Nat) : List (Bool × Nat) → Act → World → Prop
  | [], a, w => K a w
  | (true, i) :: rest, a, w => ∃ o, ops[i]? = some o ∧ ∃ v, YieldsIf P ops (SW ops S st i) o v a ∧ wpCanG P ops K S st rest (a.put o.dst v) w
  | (false, i) :: rest, a, w => ∃ o, ops[i]? = some o ∧ Region.wanted o (yielded ops a.tmps) = true ∧ o.wp P a w (fun a' w' => (i ≠ st → S w') ∧ wpCanG P ops K S st rest a' w') (fun _ _ _ => False)
def canOKG (ops : Array Oper) (st : Nat) : List (Bool × Nat) → Array Bool → Bool
  | [], L => (Region.ready .any ops L).isEmpty
  | (true, i) :: rest, L => Region.free .any ops L i && (Region.ready .any ops L).contains i && (i != st) && (!waitB ops st i || L.getD st true == false) && canOKG ops st rest (L.setIfInBounds i true)
  | (false, i) :: rest, L => (Region.ready .any ops L == [i]) && decide (st < L.size) && canOKG ops st rest (L.setIfInBounds i true)
theorem wpAnyG_of_can {K : Act → World → Prop} (hs : Region.noSelect ops = true) : ∀ (ord : List (Bool × Nat)) (fuel : Nat) (L : Array Bool) (a : Act) (w : World),
    ord.length ≤ fuel → canOKG ops st ord L = true → (L.getD st true = false → S w) → wpCanG P ops K S st ord a w → wpAnyG P ops (onlyN K) S st fuel L a w := by
  intro ord
  induction ord with
  | nil =>
    intro fuel L a w _ hok _ h
    have hr : Region.ready .any ops L = [] := by simpa [canOKG] using hok
    cases fuel with
    | zero => exact ⟨hr, h⟩
    | succ f => exact ⟨fun _ => h, by rw [hr]; simp⟩
  | cons p rest ih =>
    intro fuel L a w hf hok hS h
    obtain ⟨b, i⟩ := p
    obtain ⟨fuel, rfl⟩ : ∃ f, fuel = f + 1 := ⟨fuel - 1, by simp at hf; omega⟩
    have hf' : rest.length ≤ fuel := by simp at hf; omega
    cases b with
    | true =>
      simp only [canOKG, Bool.and_eq_true] at hok
      obtain ⟨⟨⟨⟨h1, h2⟩, h3⟩, h4⟩, h5⟩ := hok
      obtain ⟨o, ho, v, hy, h⟩ := h
      have his : i ≠ st := by simpa using h3
      refine wpAnyG_first ho (Region.noSelect_spec hs) (fun _ _ _ h => h) his fuel L a w (Region.free_spec ho h1) (by simpa using h2) hy hS (fun hw => ?_) (ih fuel _ _ w hf' h5 (fun h => hS (by rwa [getD_set_ne true his] at h)) h)
      rw [hw] at h4
      simpa using h4
    | false =>
      simp only [canOKG, Bool.and_eq_true, beq_iff_eq, decide_eq_true_eq] at hok
      obtain ⟨⟨h1, h2⟩, h3⟩ := hok
      obtain ⟨o, ho, hw, h⟩ := h
      refine ⟨fun h0 => (by rw [h0] at h1; cases h1), fun j hj => ?_⟩
      rw [h1] at hj
      have hj : j = i := by simpa using hj
      subst hj
      unfold wpOp
      simp only [ho]
      rw [if_pos hw]
      refine .inl ?_
      have h2' := Oper.wp_mono (K' := fun a' w' => ((L.setIfInBounds j true).getD st true = false → S w') ∧ wpAnyG P ops (onlyN K) S st fuel (L.setIfInBounds j true) a' w') (fun a' w' hh => by
        have hS' : (L.setIfInBounds j true).getD st true = false → S w' := fun h => hh.1 (fun e => by
          subst e
          rw [Array.getD_eq_getD_getElem?, Array.getElem?_setIfInBounds_self_of_lt h2] at h
          cases h)
        exact ⟨hS', ih fuel _ a' w' hf' h3 hS' hh.2⟩) h
      unfold Oper.wp at h2' ⊢
      generalize (execOp a.eval o).run P w = r at h2' ⊢
      cases r with
      | ok n w' =>
        cases n <;> first
          | exact h2'
          | (refine Calls.mono h2' fun e w'' he => ?_
             cases e with
             | returned v => exact he
             | panicked c => exact he.elim
             | outgrown => obtain ⟨_, _, h3⟩ := he; exact h3.elim)
      | halt x w' => cases x <;> first | exact h2' | exact h2'.elim
/-- A region with one store that writes what others of the region read. -/
theorem wp_region_canG {l t : List Oper} {id : Nat} {a : Act} {w : World} (st : Nat) (ord : List (Bool × Nat)) (S : World → Prop) (hm : P.follows .mixedOrders = true)
    (hok : (tailOK l t && Region.noSelect l.toArray && canOKG l.toArray st ord (Array.replicate l.toArray.size false) && decide (ord.length ≤ l.toArray.size)) = true) (hS : S w.drew)
    (h : wpCanG P l.toArray (wpList P #[] Q t) S st ord a w.drew) :
    (Code.region id (l ++ t).toArray true).wp P Q a w := by
  simp only [Bool.and_eq_true, decide_eq_true_eq] at hok
  refine wp_region_tail hm hok.1.1.1 ?_
  refine wpAny_Qmono (fun e a w hq => ?_) _ _ _ _ (wpAny_of_G _ _ _ _ (wpAnyG_of_can hok.1.1.2 ord _ _ a w.drew hok.2 hok.1.2 (fun _ => hS) h))
  cases e with
  | normal => exact hq
  | _ => exact hq.elim
theorem wpCanG_nil {K : Act → World → Prop} {a : Act} {w : World} (h : K a w) : wpCanG P ops K S st [] a w := h
variable {l : List Oper}
/-- An operation that looks at what st writes. -/
theorem wpCanG_s {K : Act → World → Prop} {a : Act} {w : World} {i : Nat} {o : Oper} {v : Value} {d : Tmp} {rest : List (Bool × Nat)} (ho : l[i]? = some o) (hg : o.guard = none) (hd : o.dst = some d) (hw : waitB l.toArray st i = true)
    (hy : ∀ W, S W → (execOp a.eval o).run P W = .ok (.value v) W) (h : wpCanG P l.toArray K S st rest (a.put (some d) v) w) : wpCanG P l.toArray K S st ((true, i) :: rest) a w :=
  ⟨o, getl ho, v, .inl ⟨by simp [Region.wanted, hg], fun W hW => hy W (hW hw)⟩, hd ▸ h⟩
/-- An operation that looks at no memory. -/
theorem wpCanG_q {K : Act → World → Prop} {a : Act} {w : World} {i : Nat} {o : Oper} {v : Value} {d : Tmp} {rest : List (Bool × Nat)} (ho : l[i]? = some o) (hg : o.guard = none) (hd : o.dst = some d)
    (hy : ∀ W, (execOp a.eval o).run P W = .ok (.value v) W) (h : wpCanG P l.toArray K S st rest (a.put (some d) v) w) : wpCanG P l.toArray K S st ((true, i) :: rest) a w :=
  ⟨o, getl ho, v, .inl ⟨by simp [Region.wanted, hg], fun W _ => hy W⟩, hd ▸ h⟩
/-- An operation that is carried out, not st. -/
theorem wpCanG_e {K : Act → World → Prop} {a : Act} {w : World} {i : Nat} {o : Oper} {rest : List (Bool × Nat)} (ho : l[i]? = some o) (hg : o.guard = none)
    (h : ∀ K' : Act → World → Prop, (∀ a' w', S w' ∧ wpCanG P l.toArray K S st rest a' w' → K' a' w') → o.wp P a w K' (fun _ _ _ => False)) : wpCanG P l.toArray K S st ((false, i) :: rest) a w :=
  ⟨o, getl ho, by simp [Region.wanted, hg], h _ (fun _ _ h => ⟨fun _ => h.1, h.2⟩)⟩
/-- st. -/
theorem wpCanG_st {K : Act → World → Prop} {a : Act} {w : World} {o : Oper} {rest : List (Bool × Nat)} (ho : l[st]? = some o) (hg : o.guard = none)
    (h : ∀ K' : Act → World → Prop, (∀ a' w', wpCanG P l.toArray K S st rest a' w' → K' a' w') → o.wp P a w K' (fun _ _ _ => False)) : wpCanG P l.toArray K S st ((false, st) :: rest) a w :=
  ⟨o, getl ho, by simp [Region.wanted, hg], h _ (fun _ _ h => ⟨fun e => absurd rfl e, h⟩)⟩
end
end Go.Proofs.YgdaegDoor
