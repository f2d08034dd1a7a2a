import Derived.Test.YgdaegDoorFine
import Derived.Test.YgdaegDoorRows
import Derived.Test.YgdaegDoorTie
import Derived.Test.YgdaegDoorCards
import Derived.ProofKit
import Derived.LaidMore
import Derived.Stop.Joined
import Derived.Deep.Slices
import Derived.Lib.SmallJoins
import Derived.Carry
import Derived.Deep.MidRow
namespace Go.Proofs.YgdaegDoor
open Go.ChangeShapes Go.WideShapes Go.ChangeAt Go.RowKit
set_option linter.unusedSimpArgs false
set_option linter.unusedVariables false
theorem own : ownKnob Yaed.prog.godebug = none := by kernel_rfl
theorem gRel : Yaed.prog.globalNamed "sqlmini/law.theRel" = some 0 := by kernel_rfl
theorem tRel : (Yaed.prog.globals[0]?).map (·.type) = some 27 := by kernel_rfl
theorem cells100 : Yaed.prog.cellsOf 100 = 4 := by kernel_rfl
theorem cells94 : Yaed.prog.cellsOf 94 = 1 := by kernel_rfl
theorem cells97 : Yaed.prog.cellsOf 97 = 1 := by kernel_rfl
theorem cells2 : Yaed.prog.cellsOf 2 = 1 := by kernel_rfl
theorem cells98 : Yaed.prog.cellsOf 98 = 1 := by kernel_rfl
theorem cells9 : Yaed.prog.cellsOf 9 = 1 := by kernel_rfl
section
variable {H : Type} {enc : TypeId × Value → H} {w : World} {base : Nat} {spare : Nat → Bool} {held : Bool} {fuel : Nat} {cs : List Value} {x : DataW H × List MemPlace}
set_option maxRecDepth 100000 in
theorem trod_float98 (h : DataW.trod enc Yaed.prog w base spare held fuel 98 cs = some x) : ∃ n, cs = [.float .f64 n] ∧ n < 18446744073709551616 := by
  cases fuel with
  | zero => simp [DataW.trod] at h
  | succ m =>
    unfold DataW.trod at h
    rw [Yaed.underlying98] at h
    split at h <;> simp_all [Lit.wf]
    rename_i k k' b heq
    subst heq
    by_cases hc : k' = FloatKind.f64 ∧ decide (b < 18446744073709551616) = true
    · exact ⟨b, ⟨hc.1, rfl⟩, by simpa using hc.2⟩
    · have h' : (if k' = FloatKind.f64 ∧ decide (b < 18446744073709551616) = true then some ((DataW.lit (Lit.float FloatKind.f64 b) : DataW H), ([] : List MemPlace)) else none) = some x := h
      rw [if_neg hc] at h'
      cases h'
set_option maxRecDepth 100000 in
theorem open_V (h : DataW.trod enc Yaed.prog w base spare held fuel 100 cs = some x) : ∃ v : V, cs = v.list ∧ v.ok := by
  obtain ⟨y0, y1, y2, y3, n, rfl, hl, h0, h1, h2, h3⟩ := Go.Joins.trod_struct4 Yaed.underlying100 h
  rw [cells100] at hl
  match cs, hl with
  | [c0, c1, c2, c3], _ =>
    simp only [cells97, cells2, cells98, cells9, List.drop_zero, List.drop_succ_cons, List.take_succ_cons, List.take_zero] at h0 h1 h2 h3
    obtain ⟨k, e0, _, _⟩ := DataW.trod_int Yaed.underlying97 h0
    obtain ⟨i, e1, _, _⟩ := DataW.trod_int Yaed.underlying2 h1
    obtain ⟨r, e2, hr⟩ := trod_float98 h2
    obtain ⟨s, e3, _, _⟩ := DataW.trod_string Yaed.underlying9 h3
    simp only [List.cons.injEq, and_true] at e0 e1 e2 e3
    subst e0 e1 e2 e3
    exact ⟨⟨k, i, r, s⟩, rfl, hr⟩
theorem list_choice {α : Type} (d : α) {P : Nat → α → Prop} : ∀ (n : Nat), (∀ i, i < n → ∃ v, P i v) → ∃ l : List α, l.length = n ∧ ∀ i, i < n → P i (l.getD i d)
  | 0, _ => ⟨[], rfl, fun i h => absurd h (Nat.not_lt_zero _)⟩
  | n + 1, h => by
    obtain ⟨l, hl, hp⟩ := list_choice d n (fun i hi => h i (by omega))
    obtain ⟨v, hv⟩ := h n (by omega)
    refine ⟨l ++ [v], by simp [hl], fun i hi => ?_⟩
    by_cases e : i < n
    · rw [List.getD_eq_getElem?_getD, List.getElem?_append_left (by omega), ← List.getD_eq_getElem?_getD]
      exact hp i e
    · obtain rfl : i = n := by omega
      rw [List.getD_eq_getElem?_getD, List.getElem?_append_right (by omega), hl]
      simpa using hv
theorem add_none {b o k : Nat} : (⟨b, o, none⟩ : Addr).add k = ⟨b, o + k, none⟩ := Addr.add_mid b o k
set_option maxRecDepth 100000 in
/-- A row of values. -/
theorem open_vrow (h : DataW.trod enc Yaed.prog w base (fun _ => true) held fuel 94 cs = some x) : ∃ (v : Value) (row : List V), cs = [v] ∧ Arr w (fun _ => True) v 4 (row.map V.list) ∧ (∀ u ∈ row, u.ok) ∧ row.length ≤ maxLen := by
  rcases Go.Deep.open_slice Yaed.underlying94 h with ⟨rfl, _⟩ | ⟨a, len, cap, m, n, D, Pl, rfl, _, hlc, hcm, hm, _, hel⟩
  · exact ⟨_, [], rfl, Arr.nil _ _ _, fun u hu => (by cases hu), Nat.zero_le _⟩
  · simp only [if_true] at hm
    subst hm
    have hspot : len = 0 ∨ ∃ b o, a = ⟨b, o, none⟩ := by
      rcases Nat.eq_zero_or_pos len with h0 | h0
      · exact .inl h0
      · right
        obtain ⟨cs', hc, ht⟩ := hel 0 (by omega)
        obtain ⟨v, rfl, hv⟩ := open_V ht
        rw [cells100] at hc
        obtain ⟨_, hlen, hcell⟩ := World.cells?_some hc
        obtain ⟨b, o, sp⟩ := a
        have h1 := World.cell?_spot ((hcell 0 (by omega)).trans (show v.list[0]? = some _ from rfl))
        have h2 : sp = none := by simpa [Addr.add] using h1
        exact ⟨b, o, by rw [h2]⟩
    obtain ⟨row, hl, hrow⟩ := list_choice (P := fun i v => (∃ b o, a = ⟨b, o, none⟩ ∧ b < w.heap.size ∧ ∀ f, f < 4 → w.cell? ⟨b, o + i * 4 + f, none⟩ = some (v.list.getD f undef)) ∧ v.ok) V0 len (fun i hi => by
      obtain ⟨cs', hc, ht⟩ := hel i (by omega)
      obtain ⟨v, rfl, hv⟩ := open_V ht
      rw [cells100] at hc
      have hblk := World.cells?_block hc (by omega)
      obtain ⟨_, hlen, hcell⟩ := World.cells?_some hc
      refine ⟨v, ?_, hv⟩
      obtain ⟨b, o, rfl⟩ : ∃ b o, a = ⟨b, o, none⟩ := by
        rcases hspot with h | h
        · omega
        · exact h
      refine ⟨b, o, rfl, by simpa [add_none] using hblk, fun f hf => ?_⟩
      have h1 := hcell f hf
      rw [add_none, add_none] at h1
      rw [h1]
      rcases (by omega : f = 0 ∨ f = 1 ∨ f = 2 ∨ f = 3) with rfl | rfl | rfl | rfl <;> rfl)
    refine ⟨_, row, rfl, ⟨some a, m, by simp [hl], by simp [hl]; omega, fun i hi => ?_⟩, fun u hu => ?_, by omega⟩
    · have hi' : i < len := by simpa [hl] using hi
      obtain ⟨⟨b, o, rfl, hb, hc⟩, _⟩ := hrow i hi'
      refine ⟨b, o, rfl, trivial, hb, fun f hf => ?_⟩
      rw [hc f hf]
      have e : (row.map V.list).getD i [] = (row.getD i V0).list := by simp [List.getD_eq_getElem?_getD, hl, hi']
      rw [e]
    · obtain ⟨i, hi, rfl⟩ := List.getElem_of_mem hu
      have h1 := (hrow i (by omega)).2
      rw [getD_of_lt _ _ _ hi] at h1
      exact h1
set_option maxRecDepth 100000 in
/-- Rows of values. -/
theorem open_vrows (h : DataW.trod enc Yaed.prog w base (fun _ => true) held fuel 22 cs = some x) : ∃ (v : Value) (rs : List (List V)), cs = [v] ∧ Arr2 w (fun _ => True) v 4 (rowsL rs) ∧ (∀ u ∈ rs.flatten, u.ok) ∧ rs.length ≤ maxLen := by
  rcases Go.Deep.open_slice Yaed.underlying22 h with ⟨rfl, _⟩ | ⟨a, len, cap, m, n, D, Pl, rfl, _, hlc, hcm, hm, _, hel⟩
  · exact ⟨_, [], rfl, Arr2.nil _ _ _, fun u hu => (by cases hu), Nat.zero_le _⟩
  · simp only [if_true] at hm
    subst hm
    have hspot : len = 0 ∨ ∃ b o, a = ⟨b, o, none⟩ := by
      rcases Nat.eq_zero_or_pos len with h0 | h0
      · exact .inl h0
      · right
        obtain ⟨cs', hc, ht⟩ := hel 0 (by omega)
        obtain ⟨v, row, rfl, _⟩ := open_vrow ht
        rw [cells94] at hc
        obtain ⟨_, hlen, hcell⟩ := World.cells?_some hc
        obtain ⟨b, o, sp⟩ := a
        have h1 := World.cell?_spot ((hcell 0 (by omega)).trans (show [v][0]? = some v from rfl))
        have h2 : sp = none := by simpa [Addr.add] using h1
        exact ⟨b, o, by rw [h2]⟩
    obtain ⟨l, hl, hrow⟩ := list_choice (P := fun i (p : Value × List V) => (∃ b o, a = ⟨b, o, none⟩ ∧ b < w.heap.size ∧ w.cell? ⟨b, o + i, none⟩ = some p.1) ∧ Arr w (fun _ => True) p.1 4 (p.2.map V.list) ∧ ∀ u ∈ p.2, u.ok) (undef, []) len (fun i hi => by
      obtain ⟨cs', hc, ht⟩ := hel i (by omega)
      obtain ⟨v, row, rfl, hA, hok, _⟩ := open_vrow ht
      rw [cells94] at hc
      have hblk := World.cells?_block hc (by omega)
      obtain ⟨_, hlen, hcell⟩ := World.cells?_some hc
      refine ⟨(v, row), ?_, hA, hok⟩
      obtain ⟨b, o, rfl⟩ : ∃ b o, a = ⟨b, o, none⟩ := by
        rcases hspot with h | h
        · omega
        · exact h
      have h0 := hcell 0 (by omega)
      refine ⟨b, o, rfl, by simpa [add_none] using hblk, ?_⟩
      rw [add_none, add_none] at h0
      simpa using h0)
    refine ⟨_, l.map (·.2), rfl, ⟨l.map (·.1), by simp [rowsL], ⟨some a, m, by simp [hl], by simp [hl]; omega, fun i hi => ?_⟩, fun i hi => ?_⟩, fun u hu => ?_, by simp [hl]; omega⟩
    · have hi' : i < len := by simpa [hl] using hi
      obtain ⟨⟨b, o, rfl, hb, hc⟩, _⟩ := hrow i hi'
      refine ⟨b, o, rfl, trivial, hb, fun f hf => ?_⟩
      obtain rfl : f = 0 := by omega
      rw [Nat.mul_one, Nat.add_zero, hc]
      simp [List.getD_eq_getElem?_getD, hl, hi']
    · have hi' : i < len := by simpa [rowsL, hl] using hi
      have h1 := (hrow i hi').2.1
      have e1 : (l.map (·.1)).getD i undef = (l.getD i (undef, [])).1 := by simp [List.getD_eq_getElem?_getD, hl, hi']
      have e2 : (rowsL (l.map (·.2))).getD i [] = (l.getD i (undef, [])).2.map V.list := by simp [rowsL, List.getD_eq_getElem?_getD, hl, hi']
      rw [e1, e2]
      exact h1
    · obtain ⟨r, hr, hu'⟩ := List.mem_flatten.1 hu
      obtain ⟨p, hp, rfl⟩ := List.mem_map.1 hr
      obtain ⟨i, hi, rfl⟩ := List.getElem_of_mem hp
      have h1 := (hrow i (by omega)).2.2
      rw [getD_of_lt _ _ _ hi] at h1
      exact h1 u hu'
end
end Go.Proofs.YgdaegDoor
