import Derived.Test.YgdaegDoorArena
import Derived.Deep.Upon
namespace Go.Proofs.YgdaegDoor
open Go.RowKit
set_option linter.unusedSimpArgs false
set_option linter.unusedVariables false
section
variable {P : Program} {w : World} {o : Oper} {a : Act} {Q : Exit → Act → World → Prop} {s x : Operand} {t : TypeId} {base : Nat} {e : TypeId} {size bytes : Nat} {v xv u : Value} {n : Nat} {xs : List Value}
  {rows : List (List Value)} {ok : Nat → Prop}

theorem flat_len {k : Nat} : ∀ (rows : List (List Value)), (∀ r ∈ rows, r.length = k) → rows.flatten.length = rows.length * k
  | [], _ => by simp
  | r :: rs, h => by
    rw [List.flatten_cons, List.length_append, flat_len rs (fun r hr => h r (List.mem_cons_of_mem _ hr)), h r (List.mem_cons_self ..), List.length_cons, Nat.succ_mul]; omega

/-- The cells of an array, one after another. -/
theorem Arr.news (hX : Arr w ok xv size rows) (hr : ∀ r ∈ rows, r.length = size) (hsz : 0 < size) (h0 : 0 < rows.length) :
    ∃ b o cap, xv = .slice (some ⟨b, o, none⟩) rows.length cap ∧ ok b ∧ b < w.heap.size ∧ ∀ j u, rows.flatten[j]? = some u → w.cell? (Addr.add ⟨b, o, none⟩ j) = some u := by
  obtain ⟨aa, cap, rfl, hc, hh⟩ := hX
  obtain ⟨b, o, rfl, hb, hlt, _⟩ := hh 0 h0
  refine ⟨b, o, cap, rfl, hb, hlt, fun j u hj => ?_⟩
  have hjl : j < rows.length * size := by
    have := (List.getElem?_eq_some_iff.1 hj).1
    rwa [flat_len rows hr] at this
  have hi : j / size < rows.length := Nat.div_lt_of_lt_mul (by rwa [Nat.mul_comm] at hjl)
  obtain ⟨b', o', he, _, _, hcell⟩ := hh (j / size) hi
  obtain ⟨rfl, rfl⟩ : b = b' ∧ o = o' := by simpa using he
  have hf : j % size < size := Nat.mod_lt _ hsz
  have h1 := hcell (j % size) hf
  have h2 := flat_get rows hr (j / size) (j % size) hi hf
  have hj' : j / size * size + j % size = j := by rw [Nat.mul_comm]; exact Nat.div_add_mod j size
  rw [hj', hj] at h2
  rw [Nat.add_assoc, hj'] at h1
  rw [Addr.add_lit, h1]
  exact h2.symm ▸ rfl

theorem run_appS (ty : TypeId) (ht : P.underlying t = some (.slice e)) (hinfo : infoTest P e size bytes = true) (hown : w.ownsRow base e size v n xs)
    (hX : Arr w ok xv size rows) (hr : ∀ r ∈ rows, r.length = size) (h1 : ∀ u ∈ rows.flatten, u.oneCell' = true)
    (hsz : 0 < size) (hn : n + rows.length < 1000000) (hby : bytes ≤ 1000) (hbase : base ≤ w.heap.size) :
    ∃ ao cap w', (Builtin.append_ #[t, t] ty #[v, xv]).run P w = .ok (.slice ao (n + rows.length) cap) w' ∧ w'.ownsRow base e size (.slice ao (n + rows.length) cap) (n + rows.length) (xs ++ rows.flatten) ∧ w.grownBy w' v.ownBlock ∧
      ((Value.slice ao (n + rows.length) cap).ownBlock = v.ownBlock ∨ (Value.slice ao (n + rows.length) cap).ownBlock = some w.heap.size) := by
  obtain ⟨ii, z, hi, hz, hsi, hbi, hzs⟩ := info_of hinfo
  have hvs : ∃ ao cap, v = .slice ao n cap ∧ n ≤ cap := by
    rcases hown.2 with ⟨rfl, rfl⟩ | ⟨g, cap, cur, rfl, _, _, h, _⟩
    · exact ⟨none, 0, rfl, Nat.le_refl _⟩
    · exact ⟨_, cap, rfl, h⟩
  by_cases h0 : 0 < rows.length
  · have hb : (n + rows.length) * bytes ≤ 140737488355328 := Nat.le_trans (Nat.mul_le_mul (show n + rows.length ≤ 1000000 by omega) hby) (by omega)
    obtain ⟨b, o, cap, rfl, _, _, hnews⟩ := hX.news hr hsz h0
    obtain ⟨g, c, w', hr', h2, h3, h4, h5⟩ := run_append_lies (P := P) w t ty base e ii z size bytes ht hi hz hsi hbi hzs hsz v n xs hown ⟨b, o, none⟩ rows.length cap rows.flatten (flat_len rows hr) hnews h1 h0 (by unfold maxLen; omega) hb hbase _ rfl
    refine ⟨_, c, w', hr', h2, h3, ?_⟩
    rcases h4 with h4 | h4
    · exact .inl h4.symm
    · exact .inr (by rw [h4]; rfl)
  · have e0 : rows = [] := by cases rows with | nil => rfl | cons _ _ => simp at h0
    subst e0
    obtain ⟨ao, cap, rfl, hcap⟩ := hvs
    obtain ⟨xa, xc, rfl, _, _⟩ := hX
    refine ⟨ao, cap, w, ?_, by simpa using hown, ⟨rfl, rfl, rfl, Nat.le_refl _, fun _ _ _ => rfl⟩, .inl rfl⟩
    refine run_append_nothing w t t ty e ii ht hi ao n cap hcap _ ?_
    cases xa with
    | none => exact Src.ofNil w ht xc
    | some ad => exact Src.ofSlice w ht ad 0 xc [] (by simp) (fun j u h => by simp at h) (fun u h => by simp at h)

/-- append of a whole slice. -/
theorem wp_appS {K : Act → World → Prop} (base : Nat) (ho : o.op = .call { callee := .builtin .append, args := #[s, x], argTypes := #[t, t] })
    (ht : P.underlying t = some (.slice e)) (hinfo : infoTest P e size bytes = true) (hs : a.eval s = v) (hx : a.eval x = xv)
    (hown : w.ownsRow base e size v n xs) (hX : Arr w ok xv size rows) (hr : ∀ r ∈ rows, r.length = size) (h1 : ∀ u ∈ rows.flatten, u.oneCell' = true)
    (hsz : 0 < size) (hn : n + rows.length < 1000000) (hby : bytes ≤ 1000) (hbase : base ≤ w.heap.size)
    (h : ∀ ao cap w', w'.ownsRow base e size (.slice ao (n + rows.length) cap) (n + rows.length) (xs ++ rows.flatten) → w.grownBy w' v.ownBlock →
      ((Value.slice ao (n + rows.length) cap).ownBlock = v.ownBlock ∨ (Value.slice ao (n + rows.length) cap).ownBlock = some w.heap.size) → K (a.put o.dst (.slice ao (n + rows.length) cap)) w') : o.wp P a w K Q := by
  obtain ⟨ao, cap, w', hr', h2, h3, h4⟩ := run_appS (P := P) o.type ht hinfo hown hX hr h1 hsz hn hby hbase
  unfold Oper.wp execOp
  simp only [ho, resolve, invoke, builtin, Sem.run_bind, Sem.run_pure, Result.andThen_ok, List.map_toArray, List.map_cons, List.map_nil, hs, hx, hr']
  exact h ao cap w' h2 h3 h4
theorem wpList_appS {ops : Array Oper} {rest : List Oper} (base : Nat) (hgd : o.guard = none) (ho : o.op = .call { callee := .builtin .append, args := #[s, x], argTypes := #[t, t] })
    (ht : P.underlying t = some (.slice e)) (hinfo : infoTest P e size bytes = true) (hs : a.eval s = v) (hx : a.eval x = xv)
    (hown : w.ownsRow base e size v n xs) (hX : Arr w ok xv size rows) (hr : ∀ r ∈ rows, r.length = size) (h1 : ∀ u ∈ rows.flatten, u.oneCell' = true)
    (hsz : 0 < size) (hn : n + rows.length < 1000000) (hby : bytes ≤ 1000) (hbase : base ≤ w.heap.size)
    (h : ∀ ao cap w', w'.ownsRow base e size (.slice ao (n + rows.length) cap) (n + rows.length) (xs ++ rows.flatten) → w.grownBy w' v.ownBlock →
      ((Value.slice ao (n + rows.length) cap).ownBlock = v.ownBlock ∨ (Value.slice ao (n + rows.length) cap).ownBlock = some w.heap.size) → wpList P ops Q rest (a.put o.dst (.slice ao (n + rows.length) cap)) w') : wpList P ops Q (o :: rest) a w :=
  wpList_plain hgd fun _ hK => wp_appS base ho ht hinfo hs hx hown hX hr h1 hsz hn hby hbase fun ao cap w' h2 h3 h4 => hK _ _ (h ao cap w' h2 h3 h4)

/-- append(nil, make([]T, n)...). -/
theorem run_appZ (tx ty : TypeId) (ik : IntKind) (hi64 : ik = .i64) (ht : P.underlying t = some (.slice e)) (htx : P.underlying tx = some (.int ik)) (ii : TypeInfo) (z : Value) (hi : P.info? e = some ii) (hz : ii.zero = some z) (hsi : ii.size = 1) (hb : ii.bytes ≤ 1000)
    (hzc : z.cells = #[u]) (n : Nat) (hn : n < 1000000) (hbase : base ≤ w.heap.size) :
    ∃ ao cap w', (Builtin.append_ #[t, tx] ty #[.slice none 0 0, .int .i64 n]).run P w = .ok (.slice ao n cap) w' ∧ w'.ownsRow base e 1 (.slice ao n cap) n (List.replicate n u) ∧ Below w.heap.size w w' ∧ (n = 0 → ao = none ∧ cap = 0) := by
  subst hi64
  have hw : IntKind.i64.wrap (n : Int) = n := IntWalk.i64_in _ (by omega)
  have hneg : ¬ ((n : Int) < 0) := by omega
  have hsz : (n : Int) * (ii.bytes : Int) ≤ 281474976710656 := by
    have h1 : n * ii.bytes ≤ 1000000 * 1000 := Nat.mul_le_mul (by omega) hb
    have h2 : ((n * ii.bytes : Nat) : Int) ≤ ((1000000 * 1000 : Nat) : Int) := Int.ofNat_le.2 h1
    rw [Int.natCast_mul] at h2
    omega
  have hsz' : ¬ (281474976710656 < (n : Int) * (ii.bytes : Int)) := by omega
  by_cases h0 : n = 0
  · subst h0
    refine ⟨none, 0, w, ?_, ⟨by simp, .inl ⟨rfl, rfl⟩⟩, Below.refl _ _, fun _ => ⟨rfl, rfl⟩⟩
    have hw0 : IntKind.i64.wrap 0 = 0 := by decide
    simp [Builtin.append_, run_underlying ht, run_underlying htx, sizeOf, typeInfo, hi, asInt, asIntOf, hw0]
  · have h63' : ¬ (9223372036854775807 < max (n : Int) 0) := by omega
    have hmx : ¬ (9223372036854775807 < (n : Int)) := by omega
    have hle : ¬ ((n : Int) ≤ 0) := by omega
    have h48 : ¬ (281474976710656 < Builtin.nextslicecap n 0 * ii.bytes) := by
      have : Builtin.nextslicecap n 0 = n := by unfold Builtin.nextslicecap; rw [if_pos (by omega)]
      rw [this]
      have h1 : n * ii.bytes ≤ 1000000 * 1000 := Nat.mul_le_mul (by omega) hb
      omega
    have hz0 : Builtin.zeroCells #[u] n = (List.replicate n u).toArray := by
      unfold Builtin.zeroCells
      apply Array.ext'
      simp
      rw [List.eq_replicate_iff]
      simp [Nat.mod_one]
    have hge := grownCap_ge w n 0 e
    refine ⟨some ⟨w.heap.size, 0, none⟩, grownCap w n 0 e, w.drew.alloc (.cells ((List.replicate n u).toArray ++ Builtin.zeroCells #[u] (grownCap w n 0 e - n)) e), ?_, ⟨by simp, .inr ⟨_, _, _, rfl, hbase, heap_alloc_new w.drew _, hge, grownCap_le_maxLen w n 0 e (by unfold maxLen; omega), ?_, ?_⟩⟩, (Below.refl _ _).drew.alloc (by simp) _, fun e => absurd e h0⟩
    · simp [Builtin.append_, run_underlying ht, run_underlying htx, sizeOf, typeInfo, zeroValue, hi, hz, hsi, hzc, hz0, asInt, asIntOf, hw, hneg, hsz', h0, h63', hmx, hle, h48, Question.forced, Builtin.firstCells, newRow, grownCap]
    · simp [size_zeroCells]
      omega
    · simp
theorem wp_appZ {K : Act → World → Prop} (tx : TypeId) (ho : o.op = .call { callee := .builtin .append, args := #[s, x], argTypes := #[t, tx] })
    (hs : a.eval s = .slice none 0 0) (hx : a.eval x = .int .i64 n) (ik : IntKind) (hi64 : ik = .i64) (ht : P.underlying t = some (.slice e)) (htx : P.underlying tx = some (.int ik)) (ii : TypeInfo) (z : Value) (hi : P.info? e = some ii) (hz : ii.zero = some z) (hsi : ii.size = 1) (hb : ii.bytes ≤ 1000)
    (hzc : z.cells = #[u]) (hn : n < 1000000) (hbase : base ≤ w.heap.size)
    (h : ∀ ao cap w', w'.ownsRow base e 1 (.slice ao n cap) n (List.replicate n u) → Below w.heap.size w w' → (n = 0 → ao = none ∧ cap = 0) → K (a.put o.dst (.slice ao n cap)) w') : o.wp P a w K Q := by
  obtain ⟨ao, cap, w', hr', h2, h3, h4⟩ := run_appZ (P := P) (w := w) tx o.type ik hi64 ht htx ii z hi hz hsi hb hzc n hn hbase
  unfold Oper.wp execOp
  simp only [ho, resolve, invoke, builtin, Sem.run_bind, Sem.run_pure, Result.andThen_ok, List.map_toArray, List.map_cons, List.map_nil, hs, hx, hr']
  exact h ao cap w' h2 h3 h4
theorem wpList_appZ {ops : Array Oper} {rest : List Oper} (tx : TypeId) (hgd : o.guard = none) (ho : o.op = .call { callee := .builtin .append, args := #[s, x], argTypes := #[t, tx] })
    (hs : a.eval s = .slice none 0 0) (hx : a.eval x = .int .i64 n) (ik : IntKind) (hi64 : ik = .i64) (ht : P.underlying t = some (.slice e)) (htx : P.underlying tx = some (.int ik)) (ii : TypeInfo) (z : Value) (hi : P.info? e = some ii) (hz : ii.zero = some z) (hsi : ii.size = 1) (hb : ii.bytes ≤ 1000)
    (hzc : z.cells = #[u]) (hn : n < 1000000) (hbase : base ≤ w.heap.size)
    (h : ∀ ao cap w', w'.ownsRow base e 1 (.slice ao n cap) n (List.replicate n u) → Below w.heap.size w w' → (n = 0 → ao = none ∧ cap = 0) → wpList P ops Q rest (a.put o.dst (.slice ao n cap)) w') : wpList P ops Q (o :: rest) a w :=
  wpList_plain hgd fun _ hK => wp_appZ tx ho hs hx ik hi64 ht htx ii z hi hz hsi hb hzc hn hbase fun ao cap w' h2 h3 h4 => hK _ _ (h ao cap w' h2 h3 h4)
end

/-- What an owned row grows to, seen from below its base. -/
theorem below_grown {w w' : World} {base : Nat} {e : TypeId} {size n : Nat} {v : Value} {xs : List Value} (hown : w.ownsRow base e size v n xs) (hg : w.grownBy w' v.ownBlock) (hbase : base ≤ w.heap.size) : Below base w w' := by
  refine ⟨hg.os, hg.tape, hg.output, hg.size, fun k hk => hg.block k (by omega) ?_⟩
  intro h
  rcases hown.2 with ⟨rfl, _⟩ | ⟨g, cap, cur, rfl, hb, _⟩
  · cases h
  · simp only [Value.ownBlock, Option.some.injEq] at h; omega
end Go.Proofs.YgdaegDoor
