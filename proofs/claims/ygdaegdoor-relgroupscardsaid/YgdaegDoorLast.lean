import Derived.Orders
import Derived.Tactics
import Derived.Laws.World
set_option linter.unusedSimpArgs false
set_option linter.unusedVariables false
namespace Go.Proofs.YgdaegDoor
open Go

/-- The last operation of a region comes up last, whatever order is drawn: every edge goes down, every other operation has one that waits for it, no guard looks at the last. -/
def lastOK (ops : Array Oper) : Bool :=
  (List.range ops.size).all fun i => match ops[i]? with
    | none => false
    | some o => o.after.all (fun e => !Region.binds .any e || decide (e.on < i)) &&
      (match o.guard with | none => true | some (g, _) => decide (g < ops.size - 1)) &&
      (decide (i + 1 = ops.size) || (List.range ops.size).any fun k => decide (i < k) && match ops[k]? with
        | none => false
        | some o' => o'.after.any fun e => Region.binds .any e && decide (e.on = i))

section
variable {P : Program} {ops : Array Oper} {Q : Exit → Act → World → Prop}

theorem lastOK_edges (h : lastOK ops = true) {i : Nat} {o : Oper} (ho : ops[i]? = some o) : ∀ e ∈ o.after, Region.binds .any e = true → e.on < i := by
  have hi : i < ops.size := (Array.getElem?_eq_some_iff.1 ho).1
  have h1 := List.all_eq_true.1 h i (List.mem_range.2 hi)
  simp only [ho, Bool.and_eq_true] at h1
  intro e he hb
  have h2 := (Array.all_eq_true_iff_forall_mem.1 h1.1.1) e he
  simpa [hb] using h2

theorem lastOK_guard (h : lastOK ops = true) {i : Nat} {o : Oper} (ho : ops[i]? = some o) {g : Nat} {b : Bool} (hg : o.guard = some (g, b)) : g < ops.size - 1 := by
  have hi : i < ops.size := (Array.getElem?_eq_some_iff.1 ho).1
  have h1 := List.all_eq_true.1 h i (List.mem_range.2 hi)
  simp only [ho, Bool.and_eq_true, hg] at h1
  simpa using h1.1.2

theorem lastOK_succ (h : lastOK ops = true) {i : Nat} (hi : i + 1 < ops.size) : ∃ k o, i < k ∧ ops[k]? = some o ∧ ∃ e ∈ o.after, Region.binds .any e = true ∧ e.on = i := by
  have h1 := List.all_eq_true.1 h i (List.mem_range.2 (by omega))
  have hx : ops[i]? = some ops[i] := Array.getElem?_eq_getElem (by omega)
  simp only [hx, Bool.and_eq_true] at h1
  have h2 := h1.2
  have : ¬ i + 1 = ops.size := by omega
  simp only [this, decide_false, Bool.false_or, List.any_eq_true, List.mem_range, Bool.and_eq_true, decide_eq_true_eq] at h2
  obtain ⟨k, hk, hik, h3⟩ := h2
  have hxk : ops[k]? = some ops[k] := Array.getElem?_eq_getElem hk
  simp only [hxk] at h3
  obtain ⟨j, hj, h4⟩ := Array.any_eq_true.1 h3
  simp only [Bool.and_eq_true, decide_eq_true_eq] at h4
  exact ⟨k, ops[k], hik, hxk, ops[k].after[j], Array.getElem_mem hj, h4.1, h4.2⟩

/-- Of what is listed all that it waits for is listed. -/
def Closed (ops : Array Oper) (listed : Array Bool) : Prop :=
  ∀ (i : Nat) (o : Oper), ops[i]? = some o → listed.getD i false = true → ∀ e ∈ o.after, Region.binds .any e = true → listed.getD e.on false = true

theorem getD_pop {i : Nat} (hi : i < ops.size - 1) : ops.pop[i]? = ops[i]? := by
  rw [Array.getElem?_pop, if_pos hi]

theorem bool_push {l : Array Bool} {i : Nat} {d : Bool} (hi : i < l.size) : (l.push false).getD i d = l.getD i d := by
  simp [Array.getD_eq_getD_getElem?, Array.getElem?_push, Nat.ne_of_lt hi]
theorem bool_push_last {l : Array Bool} {d : Bool} : (l.push false).getD l.size d = false := by
  simp [Array.getD_eq_getD_getElem?]
theorem bool_dflt {l : Array Bool} {i : Nat} (hi : i < l.size) (d d' : Bool) : l.getD i d = l.getD i d' := by
  simp [Array.getD_eq_getD_getElem?, hi]

/-- The greatest that is not listed. -/
theorem exists_greatest {p : Nat → Prop} : ∀ (n : Nat), (∃ j, j < n ∧ p j) → ∃ j, j < n ∧ p j ∧ ∀ k, j < k → k < n → ¬ p k := by
  intro n
  induction n with
  | zero => rintro ⟨j, h, _⟩; omega
  | succ n ih =>
    rintro ⟨j, hj, hp⟩
    by_cases hn : p n
    · exact ⟨n, by omega, hn, fun k h1 h2 => by omega⟩
    · have : j ≠ n := fun e => hn (e ▸ hp)
      obtain ⟨j', h1, h2, h3⟩ := ih ⟨j, by omega, hp⟩
      refine ⟨j', by omega, h2, fun k hk hk2 => ?_⟩
      by_cases e : k = n
      · exact e ▸ hn
      · exact h3 k hk (by omega)

/-- The least that is not listed is ready. -/
theorem exists_least {p : Nat → Prop} : ∀ (n : Nat), (∃ j, j < n ∧ p j) → ∃ j, j < n ∧ p j ∧ ∀ k, k < j → ¬ p k := by
  intro n
  induction n with
  | zero => rintro ⟨j, h, _⟩; omega
  | succ n ih =>
    rintro ⟨j, hj, hp⟩
    by_cases hex : ∃ j, j < n ∧ p j
    · obtain ⟨j', h1, h2, h3⟩ := ih hex
      exact ⟨j', by omega, h2, h3⟩
    · refine ⟨n, by omega, ?_, fun k hk hpk => hex ⟨k, hk, hpk⟩⟩
      have : j = n := by
        by_cases e : j = n
        · exact e
        · exact absurd ⟨j, by omega, hp⟩ hex
      exact this ▸ hp

theorem upon_then {o : Oper} {a : Act} {K next : Act → World → Prop} {r : Result Next} : o.upon P a K (Exit.then next Q) r ↔ o.upon P a K Q r := by
  cases r with
  | ok n w' => cases n <;> exact Iff.rfl
  | halt x w' => cases x <;> exact Iff.rfl

theorem wpAny_last_op {a : Act} {w : World} (hz : 0 < ops.size) (hok : lastOK ops = true)
    (h : wpAny P .any ops.pop (Exit.then (fun a w => wpOp P ops Q (ops.size - 1) (fun a w => Q .normal a w) a w) Q) (ops.size - 1) (Array.replicate (ops.size - 1) false) a w) :
    wpAny P .any ops Q ops.size (Array.replicate ops.size false) a w := by
  have hsz : ops.pop.size = ops.size - 1 := Array.size_pop ..
  -- all are listed, or the last is not ready and another one is
  have key : ∀ (listed : Array Bool), listed.size = ops.size - 1 → Closed ops.pop listed →
      ((∀ j, j < ops.size - 1 → listed.getD j false = true) ∨ (Region.ready .any ops.pop listed ≠ [] ∧ ops.size - 1 ∉ Region.ready .any ops (listed.push false))) := by
    intro listed hls hcl
    by_cases hall : ∀ j, j < ops.size - 1 → listed.getD j false = true
    · exact .inl hall
    · right
      have hex : ∃ j, j < ops.size - 1 ∧ listed.getD j false = false := by
        apply Classical.byContradiction
        intro hne
        apply hall
        intro j hj
        cases hb : listed.getD j false
        · exact absurd ⟨j, hj, hb⟩ hne
        · rfl
      constructor
      · obtain ⟨j, hj, hp, hmin⟩ := exists_least (p := fun j => listed.getD j false = false) (ops.size - 1) hex
        have hjo : ops[j]? = some ops[j] := Array.getElem?_eq_getElem (by omega)
        have hmem : j ∈ Region.ready .any ops.pop listed := by
          rw [mem_ready]
          refine ⟨by rw [bool_dflt (by omega) true false]; exact hp, ops[j], by rw [getD_pop hj]; exact hjo, fun e he hb => ?_⟩
          have hlt := lastOK_edges hok hjo e he hb
          have := hmin e.on hlt
          simpa using this
        intro hnil
        rw [hnil] at hmem
        cases hmem
      · obtain ⟨j, hj, hp, hmax⟩ := exists_greatest (p := fun j => listed.getD j false = false) (ops.size - 1) hex
        obtain ⟨k, o, hjk, hko, e, he, hb, hej⟩ := lastOK_succ hok (i := j) (by omega)
        have hk : k < ops.size := (Array.getElem?_eq_some_iff.1 hko).1
        intro hlast
        by_cases hkl : k = ops.size - 1
        · rw [mem_ready] at hlast
          obtain ⟨_, o', ho', hall'⟩ := hlast
          rw [hkl] at hko
          rw [hko] at ho'
          cases ho'
          have := hall' e he hb
          rw [hej, bool_push (by omega)] at this
          rw [hp] at this
          cases this
        · have hkn : ¬ listed.getD k false = false := hmax k hjk (by omega)
          have hkt : listed.getD k false = true := by simpa using hkn
          have := hcl k o (by rw [getD_pop (by omega)]; exact hko) hkt e he hb
          rw [hej, hp] at this
          cases this
  -- readiness of the others is the same
  have same : ∀ (listed : Array Bool), listed.size = ops.size - 1 → ∀ i, i < ops.size - 1 →
      (i ∈ Region.ready .any ops (listed.push false) ↔ i ∈ Region.ready .any ops.pop listed) := by
    intro listed hls i hi
    rw [mem_ready, mem_ready, bool_push (by omega), getD_pop hi]
    constructor
    · rintro ⟨h1, o, ho, h2⟩
      refine ⟨h1, o, ho, fun e he hb => ?_⟩
      have := h2 e he hb
      have hlt := lastOK_edges hok ho e he hb
      rwa [bool_push (by omega)] at this
    · rintro ⟨h1, o, ho, h2⟩
      refine ⟨h1, o, ho, fun e he hb => ?_⟩
      have := h2 e he hb
      have hlt := lastOK_edges hok ho e he hb
      rwa [bool_push (by omega)]
  have atEnd : ∀ (fuel : Nat) (listed : Array Bool) (a : Act) (w : World), listed.size = ops.size - 1 → (∀ j, j < ops.size - 1 → listed.getD j false = true) →
      wpOp P ops Q (ops.size - 1) (fun a w => Q .normal a w) a w → wpAny P .any ops Q (fuel + 1) (listed.push false) a w := by
    intro fuel listed a w hls hall hq
    have hlast : ops.size - 1 ∈ Region.ready .any ops (listed.push false) := by
      rw [mem_ready]
      refine ⟨by rw [← hls]; exact bool_push_last, ops[ops.size - 1], Array.getElem?_eq_getElem (by omega), fun e he hb => ?_⟩
      have hlt := lastOK_edges hok (Array.getElem?_eq_getElem (by omega)) e he hb
      rw [bool_push (by omega)]
      exact hall _ hlt
    have done : Region.ready .any ops ((listed.push false).setIfInBounds (ops.size - 1) true) = [] := by
      apply List.eq_nil_iff_forall_not_mem.2
      intro j hj
      rw [mem_ready] at hj
      obtain ⟨h1, o, ho, _⟩ := hj
      have hj : j < ops.size := (Array.getElem?_eq_some_iff.1 ho).1
      by_cases e : j = ops.size - 1
      · subst e
        have : ops.size - 1 < (listed.push false).size := by simp; omega
        simp [Array.getD_eq_getD_getElem?, Array.getElem?_setIfInBounds] at h1
        split at h1 <;> cases h1
      · have hb := hall j (by omega)
        have hb' : ((listed.push false).setIfInBounds (ops.size - 1) true).getD j true = listed.getD j true := by
          rw [Array.getD_eq_getD_getElem?, Array.getElem?_setIfInBounds_ne (by omega), ← Array.getD_eq_getD_getElem?, bool_push (by omega)]
        rw [hb', bool_dflt (by omega) true false, hb] at h1
        cases h1
    refine ⟨fun hnil => (by rw [hnil] at hlast; cases hlast), fun i hi => ?_⟩
    have hil : i = ops.size - 1 := by
      rw [mem_ready] at hi
      obtain ⟨h1, o, ho, _⟩ := hi
      have hj : i < ops.size := (Array.getElem?_eq_some_iff.1 ho).1
      by_cases e : i = ops.size - 1
      · exact e
      · have hb := hall i (by omega)
        rw [bool_push (by omega), bool_dflt (by omega) true false, hb] at h1
        cases h1
    subst hil
    refine wpOp_mono (fun a' w' hq' => ?_) hq
    cases fuel with
    | zero => exact ⟨done, hq'⟩
    | succ f => exact ⟨fun _ => hq', fun j hj => by rw [done] at hj; cases hj⟩
  have main : ∀ (fuel : Nat) (listed : Array Bool) (a : Act) (w : World), listed.size = ops.size - 1 → Closed ops.pop listed →
      wpAny P .any ops.pop (Exit.then (fun a w => wpOp P ops Q (ops.size - 1) (fun a w => Q .normal a w) a w) Q) fuel listed a w →
      wpAny P .any ops Q (fuel + 1) (listed.push false) a w := by
    intro fuel
    induction fuel with
    | zero =>
      intro listed a w hls hcl hh
      rcases key listed hls hcl with hall | ⟨hne, _⟩
      · exact atEnd 0 listed a w hls hall hh.2
      · exact absurd hh.1 hne
    | succ fuel ih =>
      intro listed a w hls hcl hh
      rcases key listed hls hcl with hall | ⟨hne, hnl⟩
      · have hnil : Region.ready .any ops.pop listed = [] := by
          apply List.eq_nil_iff_forall_not_mem.2
          intro j hj
          rw [mem_ready] at hj
          obtain ⟨h1, o, ho, _⟩ := hj
          have hj : j < ops.pop.size := (Array.getElem?_eq_some_iff.1 ho).1
          have hb := hall j (by omega)
          rw [bool_dflt (by omega) true false, hb] at h1
          cases h1
        exact atEnd (fuel + 1) listed a w hls hall (hh.1 hnil)
      · refine ⟨fun hnil => ?_, fun i hi => ?_⟩
        · exfalso
          apply hne
          apply List.eq_nil_iff_forall_not_mem.2
          intro j hj
          have hj' : j < ops.size - 1 := by
            rw [mem_ready] at hj
            obtain ⟨_, o, ho, _⟩ := hj
            have := (Array.getElem?_eq_some_iff.1 ho).1
            omega
          have := (same listed hls j hj').2 hj
          rw [hnil] at this
          cases this
        · have hi' : i < ops.size - 1 := by
            have hlt : i < ops.size := by
              rw [mem_ready] at hi
              obtain ⟨_, o, ho, _⟩ := hi
              exact (Array.getElem?_eq_some_iff.1 ho).1
            by_cases e : i = ops.size - 1
            · exact absurd (e ▸ hi) hnl
            · omega
          have hi2 := (same listed hls i hi').1 hi
          have h1 := hh.2 i hi2
          have hpush : (listed.push false).setIfInBounds i true = (listed.setIfInBounds i true).push false := by
            apply Array.ext_getElem?
            intro k
            simp only [Array.getElem?_setIfInBounds, Array.getElem?_push, Array.size_setIfInBounds, Array.size_push]
            by_cases e : i = k
            · subst e
              have h1 : i < listed.size + 1 := by omega
              have h2 : i < listed.size := by omega
              have h3 : ¬ i = listed.size := by omega
              simp [h1, h2, h3]
            · simp [e]
          have hcl' : Closed ops.pop (listed.setIfInBounds i true) := by
            intro j o ho hj e he hb
            by_cases ej : i = j
            · subst ej
              rw [mem_ready] at hi2
              obtain ⟨_, o', ho', h2⟩ := hi2
              rw [ho] at ho'
              cases ho'
              have := h2 e he hb
              by_cases ei : i = e.on
              · rw [← ei]
                simp [Array.getD_eq_getD_getElem?, hls, hi']
              · rw [Array.getD_eq_getD_getElem?, Array.getElem?_setIfInBounds_ne ei, ← Array.getD_eq_getD_getElem?]; exact this
            · rw [Array.getD_eq_getD_getElem?, Array.getElem?_setIfInBounds_ne ej, ← Array.getD_eq_getD_getElem?] at hj
              have := hcl j o ho hj e he hb
              by_cases ei : i = e.on
              · rw [← ei]
                simp [Array.getD_eq_getD_getElem?, hls, hi']
              · rw [Array.getD_eq_getD_getElem?, Array.getElem?_setIfInBounds_ne ei, ← Array.getD_eq_getD_getElem?]; exact this
          have h2 := wpOp_mono (fun a' w' hq => ih (listed.setIfInBounds i true) a' w' (by simpa using hls) hcl' hq) h1
          rw [hpush]
          unfold wpOp at h2 ⊢
          rw [getD_pop hi'] at h2
          cases ho : ops[i]? with
          | none => simp only [ho] at h2 ⊢; exact h2
          | some o =>
            simp only [ho] at h2 ⊢
            have hy : Region.wanted o (yielded ops.pop a.tmps) = Region.wanted o (yielded ops a.tmps) := by
              unfold Region.wanted
              cases hg : o.guard with
              | none => rfl
              | some gb =>
                obtain ⟨g, b⟩ := gb
                have hlt := lastOK_guard hok ho hg
                simp only [yielded, getD_pop hlt]
            rw [hy] at h2
            split
            · rename_i hw
              rw [if_pos hw] at h2
              rcases h2 with h2 | ⟨h2, h3⟩
              · exact .inl (upon_then.1 h2)
              · exact .inr ⟨h2, h3⟩
            · rename_i hw
              rw [if_neg hw] at h2
              exact h2
  have := main (ops.size - 1) (Array.replicate (ops.size - 1) false) a w (by simp) (by
    intro i o _ hi
    simp [Array.getD_eq_getD_getElem?, Array.getElem?_replicate] at hi
    split at hi <;> simp at hi) h
  have hrep : (Array.replicate (ops.size - 1) false).push false = Array.replicate ops.size false := by
    rw [← Array.replicate_succ]
    congr 1
    omega
  rw [hrep, Nat.sub_add_cancel hz] at this
  exact this

theorem wpAny_Qmono {Q' : Exit → Act → World → Prop} (hQ : ∀ e a w, Q e a w → Q' e a w) : ∀ (fuel : Nat) (listed : Array Bool) (a : Act) (w : World),
    wpAny P .any ops Q fuel listed a w → wpAny P .any ops Q' fuel listed a w := by
  have hop : ∀ (i : Nat) (K K' : Act → World → Prop) (a : Act) (w : World), (∀ a w, K a w → K' a w) → wpOp P ops Q i K a w → wpOp P ops Q' i K' a w := by
    intro i K K' a w hK h
    unfold wpOp at h ⊢
    split
    · rename_i ho; simp only [ho] at h; exact hK _ _ h
    · rename_i o ho
      simp only [ho] at h
      split
      · rename_i hw
        rw [if_pos hw] at h
        rcases h with h | ⟨h1, a0, w0, h2⟩
        · refine .inl ?_
          have h := Oper.wp_mono hK h
          unfold Oper.wp at h ⊢
          generalize (execOp a.eval o).run P w = r at h ⊢
          cases r with
          | ok n w' =>
            cases n <;> first
              | exact h
              | (refine Calls.mono h fun e w'' he => ?_
                 cases e with
                 | returned v => exact he
                 | panicked c => exact hQ _ _ _ he
                 | outgrown => obtain ⟨a0, w0, h2⟩ := he; exact ⟨a0, w0, hQ _ _ _ h2⟩)
          | halt x w' => cases x <;> first | exact h | exact hQ _ _ _ h
        · exact .inr ⟨h1, a0, w0, hQ _ _ _ h2⟩
      · rename_i hw
        rw [if_neg hw] at h
        exact hK _ _ h
  intro fuel
  induction fuel with
  | zero => intro listed a w h; exact ⟨h.1, hQ _ _ _ h.2⟩
  | succ fuel ih => intro listed a w h; exact ⟨fun hn => hQ _ _ _ (h.1 hn), fun i hi => hop i _ _ a w (fun a w h => ih _ a w h) (h.2 i hi)⟩

/-- The last operation of a list comes up last: it is walked behind the others. -/
theorem wpAny_last {l : List Oper} {x : Oper} {a : Act} {w : World} (hok : lastOK (l ++ [x]).toArray = true)
    (h : wpAny P .any l.toArray (Exit.then (wpList P (l ++ [x]).toArray Q [x]) Q) l.toArray.size (Array.replicate l.toArray.size false) a w) :
    wpAny P .any (l ++ [x]).toArray Q (l ++ [x]).toArray.size (Array.replicate (l ++ [x]).toArray.size false) a w := by
  have e1 : (l ++ [x]).toArray.size - 1 = l.toArray.size := by simp
  have e2 : (l ++ [x]).toArray.pop = l.toArray := by simp
  refine wpAny_last_op (by simp) hok ?_
  rw [e1, e2]
  refine wpAny_Qmono (fun e a w hq => ?_) _ _ _ _ h
  cases e with
  | normal =>
    show wpOp P (l ++ [x]).toArray Q l.toArray.size (fun a w => Q .normal a w) a w
    have hq' : wpList P (l ++ [x]).toArray Q [x] a w := hq
    unfold wpList at hq'
    unfold wpOp
    have hx : (l ++ [x]).toArray[l.toArray.size]? = some x := by simp
    simp only [hx]
    exact hq'
  | _ => exact hq
/-- The operations t come up behind those of l, in their order. -/
def tailOK (l t : List Oper) : Bool :=
  (List.range t.length).all fun k => lastOK (l ++ t.take (k + 1)).toArray && (match (t[k]?).map (·.guard) with | some none => true | _ => false)

theorem wpList_snoc {ops : Array Oper} {x : Oper} (hx : x.guard = none) : ∀ (t : List Oper), (∀ o ∈ t, o.guard = none) → ∀ (a : Act) (w : World),
    wpList P ops Q (t ++ [x]) a w → wpList P ops (Exit.then (wpList P ops Q [x]) Q) t a w := by
  intro t
  induction t with
  | nil => intro _ a w h; exact h
  | cons o t ih =>
    intro hg a w h
    have ho : o.guard = none := hg o (by simp)
    have hw : ∀ y, Region.wanted o y = true := fun y => by simp [Region.wanted, ho]
    simp only [List.cons_append] at h
    unfold wpList at h ⊢
    rw [if_pos (hw _)] at h ⊢
    rcases h with h | h
    · refine .inl ?_
      have h' := Oper.wp_mono (K' := wpList P ops (Exit.then (wpList P ops Q [x]) Q) t) (fun a w hh => ih (fun o ho => hg o (by simp [ho])) a w hh) h
      exact upon_then.2 h'
    · exact .inr h

theorem wpAny_tail {l : List Oper} : ∀ (n : Nat) (t : List Oper), t.length = n → ∀ {Q : Exit → Act → World → Prop} {a : Act} {w : World}, tailOK l t = true →
    wpAny P .any l.toArray (Exit.then (wpList P #[] Q t) Q) l.toArray.size (Array.replicate l.toArray.size false) a w →
    wpAny P .any (l ++ t).toArray Q (l ++ t).toArray.size (Array.replicate (l ++ t).toArray.size false) a w := by
  intro n
  induction n with
  | zero =>
    intro t ht Q a w _ h
    have : t = [] := List.eq_nil_of_length_eq_zero ht
    subst this
    simp only [List.append_nil]
    refine wpAny_Qmono (fun e a w hq => ?_) _ _ _ _ h
    cases e <;> exact hq
  | succ n ih =>
    intro t ht Q a w hok h
    have hne : t ≠ [] := by intro e; rw [e] at ht; simp at ht
    obtain ⟨t', x, rfl⟩ : ∃ t' x, t = t' ++ [x] := ⟨t.dropLast, t.getLast hne, (List.dropLast_concat_getLast hne).symm⟩
    have hl : t'.length = n := by simp at ht; exact ht
    have hat : ∀ k, k < (t' ++ [x]).length → lastOK (l ++ (t' ++ [x]).take (k + 1)).toArray = true ∧ ∀ o, (t' ++ [x])[k]? = some o → o.guard = none := by
      intro k hk
      have h1 := List.all_eq_true.1 hok k (List.mem_range.2 hk)
      simp only [Bool.and_eq_true] at h1
      refine ⟨h1.1, fun o ho => ?_⟩
      have h2 := h1.2
      rw [ho] at h2
      simp only [Option.map_some] at h2
      cases hg : o.guard with
      | none => rfl
      | some g => rw [hg] at h2; cases h2
    have hlast := (hat t'.length (by simp)).1
    have hxg : x.guard = none := (hat t'.length (by simp)).2 x (by simp)
    have e1 : (t' ++ [x]).take (t'.length + 1) = t' ++ [x] := List.take_of_length_le (by simp)
    rw [e1, ← List.append_assoc] at hlast
    rw [← List.append_assoc]
    refine wpAny_last hlast ?_
    have hok' : tailOK l t' = true := by
      refine List.all_eq_true.2 fun k hk => ?_
      have hk := List.mem_range.1 hk
      have h1 := List.all_eq_true.1 hok k (List.mem_range.2 (by simp; omega))
      rw [List.take_append_of_le_length (by omega), List.getElem?_append_left (by omega)] at h1
      exact h1
    have hgt : ∀ o ∈ t', o.guard = none := by
      intro o ho
      obtain ⟨k, hk, hko⟩ := List.mem_iff_getElem.1 ho
      exact (hat k (by simp; omega)).2 o (by rw [List.getElem?_append_left hk, List.getElem?_eq_getElem hk, hko])
    have key := ih t' hl (Q := Exit.then (wpList P (l ++ t' ++ [x]).toArray Q [x]) Q) (a := a) (w := w) hok'
    refine key ?_
    refine wpAny_Qmono (fun e a w hq => ?_) _ _ _ _ h
    cases e with
    | normal =>
      have hq' : wpList P #[] Q (t' ++ [x]) a w := hq
      have h2 := wpList_snoc hxg t' hgt a w hq'
      show wpList P #[] (Exit.then (wpList P (l ++ t' ++ [x]).toArray Q [x]) Q) t' a w
      have same : ∀ (a : Act) (w : World), wpList P #[] Q [x] a w → wpList P (l ++ t' ++ [x]).toArray Q [x] a w := by
        intro a w hh
        unfold wpList at hh ⊢
        have hwx : ∀ y, Region.wanted x y = true := fun y => by simp [Region.wanted, hxg]
        rw [if_pos (hwx _)] at hh ⊢
        exact hh
      have mono : ∀ (s : List Oper), (∀ o ∈ s, o.guard = none) → ∀ (a : Act) (w : World), wpList P #[] (Exit.then (wpList P #[] Q [x]) Q) s a w →
          wpList P #[] (Exit.then (wpList P (l ++ t' ++ [x]).toArray Q [x]) Q) s a w := by
        intro s
        induction s with
        | nil => intro _ a w hh; exact same a w hh
        | cons o s ihs =>
          intro hg a w hh
          unfold wpList at hh ⊢
          have hwo : ∀ y, Region.wanted o y = true := fun y => by simp [Region.wanted, hg o (by simp)]
          rw [if_pos (hwo _)] at hh ⊢
          rcases hh with hh | hh
          · refine .inl ?_
            have h' := Oper.wp_mono (fun a w hx => ihs (fun o ho => hg o (by simp [ho])) a w hx) hh
            exact upon_then.2 (upon_then.1 h')
          · exact .inr hh
      exact mono t' hgt a w h2
    | _ => exact hq

/-- A REGION THAT DRAWS, whose operations t come up last and in their order: the others in whatever order, then t as any list. -/
theorem wp_region_tail {l t : List Oper} {id : Nat} {a : Act} {w : World} (hm : P.follows .mixedOrders = true) (hok : tailOK l t = true)
    (h : wpAny P .any l.toArray (Exit.then (wpList P #[] Q t) Q) l.toArray.size (Array.replicate l.toArray.size false) a w.drew) :
    (Code.region id (l ++ t).toArray true).wp P Q a w :=
  wp_region_any hm (wpAny_tail t.length t rfl hok h)
end
end Go.Proofs.YgdaegDoor
