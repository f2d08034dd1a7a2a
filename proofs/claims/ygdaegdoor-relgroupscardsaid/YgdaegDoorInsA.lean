import Derived.Test.YgdaegDoorTwo
import Derived.Test.YgdaegDoorAllowed
import Derived.Test.YgdaegDoorExprs
import Derived.Test.YgdaegDoorEval2
namespace Go.Proofs.YgdaegDoor
open Go.RowKit
set_option linter.unusedSimpArgs false
set_option linter.unusedVariables false
/-- The tuples of an INSERT of m rows of n values. -/
def tlN (m n : Nat) : List (List Nat) := (List.range m).map fun j => (List.range n).map fun i => j * n + i
def idsN (b : Int) (m : Nat) : List Int := (List.range m).map fun (i : Nat) => b + (i : Int)
theorem idsN_succ (b : Int) (m : Nat) : idsN b (m + 1) = idsN b m ++ [b + m] := by simp [idsN, List.range_succ]
theorem idsN_len (b : Int) (m : Nat) : (idsN b m).length = m := by simp [idsN]
def normR (rs : List (List V)) : List (List V) := rs.map fun r => r.map norm
theorem tup_cells {w : World} {ok : Nat → Prop} {v : Value} {m n : Nat} (h : Arr2 w ok v 1 ((tlN m n).map i16L)) (hn : 1 ≤ n) :
    ∃ ta tcap, v = .slice ta m tcap ∧ ∀ j, j < m → ∃ b o tb to_ tc, ta = some ⟨b, o, none⟩ ∧ b < w.heap.size ∧ w.cell? ⟨b, o + j, none⟩ = some (.slice (some ⟨tb, to_, none⟩) n tc) ∧ tb < w.heap.size ∧
      ∀ i, i < n → w.cell? ⟨tb, to_ + i, none⟩ = some (.int .i16 ((j * n + i : Nat) : Int)) := by
  obtain ⟨vs, hl, ha, hi⟩ := h
  have hl' : vs.length = m := by simpa [tlN] using hl
  obtain ⟨a, c, rfl, hc, hcell⟩ := ha
  refine ⟨a, c, by simp [hl'], fun j hj => ?_⟩
  obtain ⟨b, o, rfl, _, hb, hcc⟩ := hcell j (by simpa [hl'] using hj)
  have h1 := hi j (by simpa [tlN] using hj)
  have e1 : ((tlN m n).map i16L).getD j [] = (List.range n).map fun (i : Nat) => [Value.int .i16 ((j * n + i : Nat) : Int)] := by
    simp [tlN, List.getD_eq_getElem?_getD, hj, i16L]
  rw [e1] at h1
  obtain ⟨a2, c2, he, hc2, hcell2⟩ := h1
  have he' : vs.getD j undef = .slice a2 n c2 := by simpa using he
  obtain ⟨tb, to_, rfl, _, htb, _⟩ := hcell2 0 (by simp; omega)
  refine ⟨b, o, tb, to_, c2, rfl, hb, ?_, htb, fun i hi => ?_⟩
  · have := hcc 0 (by omega)
    rw [← he']
    simpa [List.getD_eq_getElem?_getD, hl', hj] using this
  · obtain ⟨tb', to', e, _, _, hcell3⟩ := hcell2 i (by simpa using hi)
    obtain ⟨rfl, rfl⟩ : tb = tb' ∧ to_ = to' := by simpa using e
    have := hcell3 0 (by omega)
    simpa [List.getD_eq_getElem?_getD, hi] using this
theorem flat_nth {n : Nat} : ∀ (rs : List (List V)), (∀ r ∈ rs, r.length = n) → ∀ j i, j < rs.length → i < n → rs.flatten[j * n + i]? = some ((rs.getD j []).getD i V0)
  | [], _, j, i, hj, _ => absurd hj (Nat.not_lt_zero _)
  | r :: rs, h, 0, i, _, hi => by
    have hr : r.length = n := h r (by simp)
    simp only [List.flatten_cons, Nat.zero_mul, Nat.zero_add]
    rw [List.getElem?_append_left (by omega)]
    simp [List.getD_eq_getElem?_getD, hr, hi]
  | r :: rs, h, j + 1, i, hj, hi => by
    have hr : r.length = n := h r (by simp)
    simp only [List.flatten_cons]
    rw [List.getElem?_append_right (by rw [hr, Nat.succ_mul]; omega)]
    have e : (j + 1) * n + i - r.length = j * n + i := by rw [hr, Nat.succ_mul]; omega
    rw [e]
    exact flat_nth rs (fun r hr => h r (by simp [hr])) j i (by simpa using hj) hi
theorem flat_total {n : Nat} : ∀ (rs : List (List V)), (∀ r ∈ rs, r.length = n) → rs.flatten.length = rs.length * n
  | [], _ => by simp
  | r :: rs, h => by
    rw [List.flatten_cons, List.length_append, h r (by simp), flat_total rs (fun r hr => h r (by simp [hr])), List.length_cons, Nat.succ_mul]
    omega
/-- The Param of row j, value i. -/
theorem param_at {w : World} {ok : Nat → Prop} {av : Value} {n : Nat} {rs : List (List V)} (hrs : ∀ r ∈ rs, r.length = n) (h0 : 1 ≤ rs.length) (hn : 1 ≤ n) (h : Arr w ok av 12 ((paramsE rs).map E.list)) :
    ∃ ab ao acap, av = .slice (some ⟨ab, ao, none⟩) (rs.length * n) acap ∧ (∀ x, x < rs.length * n → ∃ v, NodeAt w ab (ao + x * 12) (leafE 4 v)) ∧
      ∀ j i, j < rs.length → i < n → NodeAt w ab (ao + (j * n + i) * 12) (leafE 4 (norm ((rs.getD j []).getD i V0))) := by
  obtain ⟨a, cap, rfl, hn'⟩ := h.node
  have hl : (paramsE rs).length = rs.length * n := by rw [paramsE, List.length_map, flat_total rs hrs]
  rw [hl] at hn' ⊢
  have hpos : 0 < rs.length * n := Nat.mul_pos h0 hn
  obtain ⟨ab, ao, rfl, _, _⟩ := hn' 0 hpos
  have hx : ∀ j i, j < rs.length → i < n → j * n + i < rs.length * n := by
    intro j i hj hi
    have : (j + 1) * n ≤ rs.length * n := Nat.mul_le_mul_right n hj
    rw [Nat.succ_mul] at this
    omega
  refine ⟨ab, ao, cap, rfl, fun x hx => ?_, fun j i hj hi => ?_⟩
  · obtain ⟨b, o, e, _, hN⟩ := hn' x hx
    obtain ⟨rfl, rfl⟩ : ab = b ∧ ao = o := by simpa using e
    obtain ⟨v, hv, _⟩ := paramsE_get rs x (by rw [hl]; exact hx)
    rw [hv] at hN
    exact ⟨_, hN⟩
  · obtain ⟨b, o, e, _, hN⟩ := hn' (j * n + i) (hx j i hj hi)
    obtain ⟨rfl, rfl⟩ : ab = b ∧ ao = o := by simpa using e
    have e1 : (paramsE rs).getD (j * n + i) (leafE 0 V0) = leafE 4 (norm ((rs.getD j []).getD i V0)) := by
      rw [paramsE, List.getD_eq_getElem?_getD, List.getElem?_map, flat_nth rs hrs j i hj hi]
      rfl
    rw [e1] at hN
    exact hN
theorem Arr.of_ranges {w : World} {g n cap : Nat} {row : List V} (hl : row.length = n) (hc : n ≤ cap) (hg : g < w.heap.size) (h : ∀ i, i < n → w.rangeAt g (i * 4) ((row.getD i V0).list)) :
    Arr w (fun b => b = g) (.slice (some ⟨g, 0, none⟩) n cap) 4 (row.map V.list) := by
  refine ⟨some ⟨g, 0, none⟩, cap, by simp [hl], by simpa [hl] using hc, fun i hi => ⟨g, 0, rfl, rfl, hg, fun f hf => ?_⟩⟩
  have hi' : i < row.length := by simpa using hi
  have h1 := h i (by omega) f _ (List.getElem?_eq_getElem (l := (row.getD i V0).list) (by show f < 4; exact hf))
  rw [Nat.zero_add, h1]
  have e : (row.map V.list).getD i [] = (row.getD i V0).list := by simp [List.getD_eq_getElem?_getD, hi']
  rw [e]
  exact congrArg some (getD_of_lt (row.getD i V0).list f undef (by show f < 4; exact hf)).symm
theorem normR_succ {rs : List (List V)} {j : Nat} (h : j < rs.length) : normR (rs.take (j + 1)) = normR (rs.take j) ++ [(rs.getD j []).map norm] := by
  unfold normR
  rw [List.take_succ_eq_append_getElem h, List.map_append, getD_of_lt _ _ _ h]
  rfl
theorem normR_len (rs : List (List V)) : (normR rs).length = rs.length := by simp [normR]
theorem normR_get {rs : List (List V)} {j i : Nat} (hi : i < (rs.getD j []).length) : ((rs.getD j []).map norm).getD i V0 = norm ((rs.getD j []).getD i V0) := by
  generalize rs.getD j [] = r at hi
  simp [List.getD_eq_getElem?_getD, hi]
end Go.Proofs.YgdaegDoor
