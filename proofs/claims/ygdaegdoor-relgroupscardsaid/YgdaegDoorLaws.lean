import Derived.Test.YgdaegDoorExec2
namespace Go.Proofs.YgdaegDoor
open Go.RowKit
set_option linter.unusedSimpArgs false
set_option linter.unusedVariables false
def nsN (n : Nat) : List ByteArray := (List.range n).map cname
theorem nsN_len (n : Nat) : (nsN n).length = n := by simp [nsN]
theorem colsL_ns (n : Nat) : colsL n = (nsN n).map colL := by simp [colsL, nsN, List.map_map, Function.comp_def]
theorem nsN_get {n i : Nat} (h : i < n) : (nsN n).getD i eS = cname i := by simp [nsN, List.getD_eq_getElem?_getD, h]
theorem cname_rowid (i : Nat) (h : i < 4) : ((cname i).toList == [114, 111, 119, 105, 100]) = false := by
  rcases (by omega : i = 0 ∨ i = 1 ∨ i = 2 ∨ i = 3) with rfl | rfl | rfl | rfl <;> kernel_rfl
theorem cname_ne (i j : Nat) (h : i < 4) (hj : j < i) : ((cname j).toList == (cname i).toList) = false := by
  rcases (by omega : (j = 0 ∧ i = 1) ∨ (j = 0 ∧ i = 2) ∨ (j = 0 ∧ i = 3) ∨ (j = 1 ∧ i = 2) ∨ (j = 1 ∧ i = 3) ∨ (j = 2 ∧ i = 3)) with ⟨rfl, rfl⟩ | ⟨rfl, rfl⟩ | ⟨rfl, rfl⟩ | ⟨rfl, rfl⟩ | ⟨rfl, rfl⟩ | ⟨rfl, rfl⟩ <;> kernel_rfl
theorem nsN_dist (n : Nat) (h4 : n ≤ 4) : Dist (nsN n) := by
  refine ⟨fun i hi => ?_, fun i j hj hi => ?_⟩
  · rw [nsN_len] at hi
    rw [nsN_get hi]
    exact cname_rowid i (by omega)
  · rw [nsN_len] at hi
    rw [nsN_get hi, nsN_get (by omega)]
    exact cname_ne i j (by omega) hj
theorem nsN_good (n : Nat) (h4 : n ≤ 4) : ∀ x ∈ nsN n, Good x := by
  intro x hx
  obtain ⟨i, hi, rfl⟩ := List.mem_map.1 hx
  exact good_cname i (by have := List.mem_range.1 hi; omega)
theorem fine_create (n : Nat) (h1 : 1 ≤ n) (h4 : n ≤ 4) (cv : Value) : Fine ({ St.mk0 0 tS with cols := cv } : St) [] (nsN n) :=
  ⟨.inl rfl, .inl ⟨rfl, rfl⟩, .inr ⟨rfl, rfl⟩, .inr (.inr ⟨rfl, rfl, rfl, rfl⟩), rfl, .inl ⟨rfl, by rw [nsN_len]; omega, by rw [nsN_len]; exact h4⟩, nsN_good n h4, .inr ⟨rfl, rfl⟩, fun t h => (by cases h), by simp, by simp⟩
theorem tlN_flat (n : Nat) : ∀ m, (tlN m n).flatten = List.range' 0 (m * n)
  | 0 => by simp [tlN]
  | m + 1 => by
    have h1 : tlN (m + 1) n = tlN m n ++ [(List.range n).map fun i => m * n + i] := by simp [tlN, List.range_succ]
    rw [h1, List.flatten_append, tlN_flat n m, Nat.succ_mul, ← List.range'_append_1, Nat.zero_add]
    congr 1
    simp only [List.flatten_cons, List.flatten_nil, List.append_nil]
    rw [List.range'_eq_map_range]
theorem tlN_tup (m n : Nat) : (List.range m).map (tupRow n) = (tlN m n).map i16L := by
  simp only [tlN, List.map_map]
  congr 1
  funext j
  simp [tupRow, i16L, Function.comp_def]
theorem fine_insert (n m : Nat) (h1 : 1 ≤ n) (h4 : n ≤ 4) (hm0 : 1 ≤ m) (hm : m ≤ 32) (tv av : Value) : Fine ({ St.mk0 4 tS with tuples := tv, arena := av } : St) (tlN m n) [] :=
  ⟨.inr (.inr (.inr (.inr (.inl rfl)))), .inl ⟨rfl, rfl⟩, .inr ⟨rfl, rfl⟩, .inr (.inr ⟨rfl, rfl, rfl, rfl⟩), rfl, .inr (.inr ⟨rfl, rfl, rfl⟩), fun t h => (by cases h), .inl ⟨rfl, by simp [tlN]; omega⟩,
    fun t h e => (by subst e; obtain ⟨j, _, hj⟩ := List.mem_map.1 h; have := congrArg List.length hj; simp at this; omega), by simp [tlN]; omega,
    by rw [tlN_flat, List.length_range']; exact Nat.mul_le_mul hm h4⟩
theorem sat_create {w : World} {ok : Nat → Prop} {ps n : Nat} {cv : Value} (h : StAt w ps ({ St.mk0 0 tS with cols := cv } : St)) (ho : ok ps) (hc : Arr w ok cv 3 (colsL n)) : SAt w ok ps ({ St.mk0 0 tS with cols := cv } : St) [] [] (nsN n) :=
  ⟨h, ho, Arr2.nil _ _ _, Arr.nil _ _ _, by rw [← colsL_ns]; exact hc, rfl, rfl⟩
theorem sat_insert {w : World} {ok : Nat → Prop} {ps n : Nat} {rs : List (List V)} {tv av : Value} (h : StAt w ps ({ St.mk0 4 tS with tuples := tv, arena := av } : St)) (ho : ok ps) (ht : Arr2 w ok tv 1 ((List.range rs.length).map (tupRow n))) (ha : Arr w ok av 12 ((paramsE rs).map E.list)) :
    SAt w ok ps ({ St.mk0 4 tS with tuples := tv, arena := av } : St) (tlN rs.length n) (paramsE rs) [] :=
  ⟨h, ho, by rw [← tlN_tup]; exact ht, ha, Arr.nil _ _ _, rfl, rfl⟩
theorem arena_insert (n : Nat) (hn4 : n ≤ 4) (rs : List (List V)) (hrs : ∀ r ∈ rs, r.length = n) (hm : rs.length ≤ 32) (hok : ∀ v ∈ rs.flatten, v.ok) (s : St) (hw : s.wher = -1) : Arena (paramsE rs) ((tlN rs.length n).flatten ++ whL s) (fun _ => []) := by
  have e : (tlN rs.length n).flatten ++ whL s = List.range' 0 rs.flatten.length := by rw [tlN_flat, flat_total rs hrs]; simp [whL, hw]
  rw [e]
  exact Arena.params rs hok (by rw [flat_total rs hrs]; exact Nat.mul_le_mul hm hn4)
end Go.Proofs.YgdaegDoor
