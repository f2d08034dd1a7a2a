namespace Go.Proofs.YgdaegDoor
set_option linter.unusedSimpArgs false
set_option linter.unusedVariables false
abbrev Gr := Nat × List Nat
def gAt (L : List Gr) (i : Nat) : Gr := L.getD i (0, [])
/-- The last index below n at which p holds, or -1. -/
def lastTo (p : Nat → Bool) : Nat → Int
  | 0 => -1
  | n + 1 => if p n then (n : Int) else lastTo p n
theorem lastTo_lt (p : Nat → Bool) : ∀ n, lastTo p n < n
  | 0 => by simp [lastTo]
  | n + 1 => by
    have := lastTo_lt p n
    unfold lastTo
    split <;> omega
theorem lastTo_ge (p : Nat → Bool) : ∀ n, -1 ≤ lastTo p n
  | 0 => by simp [lastTo]
  | n + 1 => by
    have := lastTo_ge p n
    unfold lastTo
    split <;> omega
theorem lastTo_congr {p q : Nat → Bool} : ∀ n, (∀ i, i < n → p i = q i) → lastTo p n = lastTo q n
  | 0, _ => rfl
  | n + 1, h => by
    unfold lastTo
    rw [h n (by omega), lastTo_congr n (fun i hi => h i (by omega))]
/-- Row r joins the group at place at. -/
def joinG (L : List Gr) (at_ : Nat) (r : Nat) : List Gr := L.set at_ ((gAt L at_).1, (gAt L at_).2 ++ [r])
/-- The place of row r's group. -/
def findG (cp : Nat → Nat → Int) (L : List Gr) (r : Nat) : Int := lastTo (fun i => cp (gAt L i).1 r == 0) L.length
def addG (cp : Nat → Nat → Int) (L : List Gr) (r : Nat) : List Gr :=
  if findG cp L r < 0 then joinG (L ++ [(r, [])]) L.length r else joinG L (findG cp L r).toNat r
/-- The groups of the rows below m, in the order of their first rows. -/
def grp (cp : Nat → Nat → Int) : Nat → List Gr
  | 0 => []
  | m + 1 => addG cp (grp cp m) m
def swapG (L : List Gr) (j : Nat) : List Gr := (L.set j (gAt L (j - 1))).set (j - 1) (gAt L j)
/-- The group at j sinks to its place. -/
def sinkG (cp : Nat → Nat → Int) : Nat → List Gr → List Gr
  | 0, L => L
  | j + 1, L => if cp (gAt L (j + 1)).1 (gAt L j).1 < 0 then sinkG cp j (swapG L (j + 1)) else L
/-- The groups up to place i in order. -/
def sortTo (cp : Nat → Nat → Int) : Nat → List Gr → List Gr
  | 0, L => L
  | i + 1, L => sinkG cp (i + 1) (sortTo cp i L)
def sortG (cp : Nat → Nat → Int) (L : List Gr) : List Gr := sortTo cp (L.length - 1) L
def allG (cp : Nat → Nat → Int) (m : Nat) : List Gr := sortG cp (grp cp m)

theorem gAt_eq {L : List Gr} {i : Nat} (h : i < L.length) : gAt L i = L[i] := by simp [gAt, List.getD_eq_getElem?_getD, h]
theorem gAt_mem {L : List Gr} {i : Nat} (h : i < L.length) : gAt L i ∈ L := by rw [gAt_eq h]; exact List.getElem_mem _
theorem joinG_len (L : List Gr) (a r : Nat) : (joinG L a r).length = L.length := by simp [joinG]
theorem swapG_len (L : List Gr) (j : Nat) : (swapG L j).length = L.length := by simp [swapG]
theorem sinkG_len (cp : Nat → Nat → Int) : ∀ (j : Nat) (L : List Gr), (sinkG cp j L).length = L.length
  | 0, L => rfl
  | j + 1, L => by
    unfold sinkG
    split
    · rw [sinkG_len cp j, swapG_len]
    · rfl
theorem sortTo_len (cp : Nat → Nat → Int) : ∀ (i : Nat) (L : List Gr), (sortTo cp i L).length = L.length
  | 0, L => rfl
  | i + 1, L => by unfold sortTo; rw [sinkG_len, sortTo_len cp i]
theorem sortG_len (cp : Nat → Nat → Int) (L : List Gr) : (sortG cp L).length = L.length := sortTo_len cp _ L
theorem addG_len (cp : Nat → Nat → Int) (L : List Gr) (r : Nat) : (addG cp L r).length ≤ L.length + 1 := by
  unfold addG
  split <;> simp [joinG_len]
theorem grp_len (cp : Nat → Nat → Int) : ∀ m, (grp cp m).length ≤ m
  | 0 => Nat.le_refl _
  | m + 1 => Nat.le_trans (addG_len _ _ _) (Nat.succ_le_succ (grp_len cp m))
/-- What holds of each group of the rows below m. -/
def GOk (m : Nat) (p : Gr) : Prop := p.2 ≠ [] ∧ p.2.headD 0 = p.1 ∧ p.1 < m ∧ (∀ k ∈ p.2, k < m) ∧ p.2.length ≤ m
theorem GOk.mono {m m' : Nat} (h : m ≤ m') {p : Gr} (hp : GOk m p) : GOk m' p :=
  ⟨hp.1, hp.2.1, Nat.lt_of_lt_of_le hp.2.2.1 h, fun k hk => Nat.lt_of_lt_of_le (hp.2.2.2.1 k hk) h, Nat.le_trans hp.2.2.2.2 h⟩
theorem mem_set_or {L : List Gr} {i : Nat} {x y : Gr} (h : y ∈ L.set i x) : y ∈ L ∨ y = x := by
  rcases List.mem_or_eq_of_mem_set h with h | h
  · exact .inl h
  · exact .inr h
theorem addG_ok (cp : Nat → Nat → Int) {L : List Gr} {m : Nat} (h : ∀ p ∈ L, GOk m p) : ∀ p ∈ addG cp L m, GOk (m + 1) p := by
  intro p hp
  unfold addG at hp
  split at hp
  · have e : joinG (L ++ [(m, [])]) L.length m = L ++ [(m, [m])] := by
      unfold joinG
      rw [gAt_eq (by simp)]
      simp
    rw [e] at hp
    rcases List.mem_append.1 hp with hp | hp
    · exact (h p hp).mono (by omega)
    · obtain rfl : p = (m, [m]) := by simpa using hp
      exact ⟨by simp, rfl, Nat.lt_succ_self _, by simp, by simp⟩
  · rename_i hf
    have hlt : (findG cp L m).toNat < L.length := by
      have := lastTo_lt (fun i => cp (gAt L i).1 m == 0) L.length
      unfold findG at hf ⊢
      omega
    unfold joinG at hp
    rcases mem_set_or hp with hp | rfl
    · exact (h p hp).mono (by omega)
    · have h0 := h _ (gAt_mem hlt)
      refine ⟨by simp, ?_, by have := h0.2.2.1; show (gAt L _).1 < _; omega, fun k hk => ?_, by have := h0.2.2.2.2; simp; omega⟩
      · have h1 := h0.2.1
        have h2 := h0.1
        cases hc : (gAt L (findG cp L m).toNat).2 with
        | nil => exact absurd hc h2
        | cons a t => rw [hc] at h1; simpa [hc] using h1
      · rcases List.mem_append.1 hk with hk | hk
        · exact Nat.lt_succ_of_lt (h0.2.2.2.1 k hk)
        · obtain rfl : k = m := by simpa using hk
          exact Nat.lt_succ_self _
theorem grp_ok (cp : Nat → Nat → Int) : ∀ m, ∀ p ∈ grp cp m, GOk m p
  | 0 => by intro p hp; simp [grp] at hp
  | m + 1 => addG_ok cp (grp_ok cp m)
theorem swapG_mem {L : List Gr} {j : Nat} (hj : j < L.length) {p : Gr} (h : p ∈ swapG L j) : p ∈ L := by
  unfold swapG at h
  rcases mem_set_or h with h | rfl
  · rcases mem_set_or h with h | rfl
    · exact h
    · exact gAt_mem (by omega)
  · exact gAt_mem hj
theorem sinkG_mem (cp : Nat → Nat → Int) : ∀ (j : Nat) (L : List Gr), j < L.length → ∀ p ∈ sinkG cp j L, p ∈ L
  | 0, L, _ => fun p h => h
  | j + 1, L, hj => by
    intro p h
    unfold sinkG at h
    split at h
    · exact swapG_mem hj (sinkG_mem cp j _ (by rw [swapG_len]; omega) p h)
    · exact h
theorem sortTo_mem (cp : Nat → Nat → Int) : ∀ (i : Nat) (L : List Gr), i < L.length → ∀ p ∈ sortTo cp i L, p ∈ L
  | 0, L, _ => fun p h => h
  | i + 1, L, hi => by
    intro p h
    unfold sortTo at h
    exact sortTo_mem cp i L (by omega) p (sinkG_mem cp (i + 1) _ (by rw [sortTo_len]; omega) p h)
theorem allG_ok (cp : Nat → Nat → Int) (m : Nat) : ∀ p ∈ allG cp m, GOk m p := by
  intro p hp
  unfold allG sortG at hp
  by_cases h : (grp cp m).length = 0
  · have h' : grp cp m = [] := List.eq_nil_of_length_eq_zero h
    rw [h'] at hp
    simp [sortTo] at hp
  · exact grp_ok cp m p (sortTo_mem cp _ _ (by omega) p hp)
theorem allG_len (cp : Nat → Nat → Int) (m : Nat) : (allG cp m).length ≤ m := by unfold allG; rw [sortG_len]; exact grp_len cp m
end Go.Proofs.YgdaegDoor
