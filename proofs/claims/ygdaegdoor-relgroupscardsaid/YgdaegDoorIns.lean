import Derived.Test.YgdaegDoorStmt2
set_option linter.unusedSimpArgs false
set_option linter.unusedVariables false
namespace Go.Proofs.YgdaegDoor
open Go.RowKit
attribute [local go_sem] run_store_float

def paramE (v : V) : E := leafE 4 (norm v)
def paramsE (rs : List (List V)) : List E := rs.flatten.map paramE
def tupRow (n j : Nat) : List (List Value) := (List.range n).map fun i => [Value.int .i16 ((j * n + i : Nat) : Int)]
def rowsL (rs : List (List V)) : List (List (List Value)) := rs.map fun r => r.map V.list

theorem ownsRow_blk {w w' : World} {base : Nat} {e : TypeId} {size : Nat} {v : Value} {n : Nat} {xs : List Value} (h : w.ownsRow base e size v n xs)
    (hb : ∀ g, v.ownBlock = some g → w'.heap[g]? = w.heap[g]?) : w'.ownsRow base e size v n xs := by
  refine ⟨h.1, ?_⟩
  rcases h.2 with hn | ⟨g, cap, cur, rfl, h1, h2, h3⟩
  · exact .inl hn
  · exact .inr ⟨g, cap, cur, rfl, h1, by rw [hb g rfl]; exact h2, h3⟩

/-- The state of insertStmt's loops. -/
structure InsC (pb ps n : Nat) (w2 : World) (es : List E) (M T : Nat → Prop) (tv : Value) (j : Nat) (tvs : List Value) (wr : World) : Prop where
  bat : BAt wr pb es M
  old : Old M wr
  low : ∀ k, k < pb → M k
  mps : M ps
  sub : ∀ k, T k → M k ∧ k ≠ ps ∧ pb ≤ k
  own : ∀ g, tv.ownBlock = some g → M g ∧ ¬ T g
  cell : wr.heap[ps]? = some (.cells ({ St.mk0 4 tS with tuples := tv } : St).arr 38 (0, 0))
  row : wr.ownsRow (ps + 1) 30 1 tv j tvs
  arr : ∀ i, i < j → Arr wr T (tvs.getD i undef) 1 (tupRow n i)
  bel : Below pb w2 wr

section
variable {pb ps n : Nat} {w2 : World} {es es' : List E} {M T : Nat → Prop} {tv : Value} {j : Nat} {tvs : List Value} {wr wr' : World}
theorem InsC.step (h : InsC pb ps n w2 es M T tv j tvs wr) (hk : Keep M wr wr') (hb : BAt wr' pb es' M) : InsC pb ps n w2 es' M T tv j tvs wr' :=
  ⟨hb, h.old.keep hk.size, h.low, h.mps, h.sub, h.own, (hk.block ps h.mps).trans h.cell, ownsRow_blk h.row (fun g hg => hk.block g (h.own g hg).1),
    fun i hi => (h.arr i hi).keep hk (fun b hb => (h.sub b hb).1), h.bel.trans (hk.below h.low)⟩
theorem InsC.ext (h : InsC pb ps n w2 es M T tv j tvs wr) (hb : Below wr.heap.size wr wr') : InsC pb ps n w2 es M T tv j tvs wr' :=
  h.step (Keep.ext h.old hb) (h.bat.ext hb)
theorem InsC.more (h : InsC pb ps n w2 es M T tv j tvs wr) (hb : Below wr.heap.size wr wr') (m : Nat) (hm : wr.heap.size ≤ m) (hm' : m < wr'.heap.size) :
    InsC pb ps n w2 es (fun k => M k ∨ k = m) T tv j tvs wr' := by
  have h' := h.ext hb
  obtain ⟨av, h1, h2, h3, h4⟩ := h.bat
  obtain ⟨av', h1', h2', h3', h4'⟩ := h'.bat
  have e : av = av' := by
    have := hb.block pb (block_lt h1)
    rw [h1, h1'] at this
    simpa using this.symm
  subst e
  refine ⟨⟨av, h1', h2', fun g hg hx => ?_, fun hx => ?_⟩, fun k hk => ?_, fun k hk => .inl (h.low k hk), .inl h.mps, fun k hk => ⟨.inl (h.sub k hk).1, (h.sub k hk).2⟩,
    fun g hg => ⟨.inl (h.own g hg).1, (h.own g hg).2⟩, h'.cell, h'.row, h'.arr, h'.bel⟩
  · rcases hx with hx | hx
    · exact h3 g hg hx
    · have := (h2.lt g hg).2; omega
  · rcases hx with hx | hx
    · exact h4 hx
    · have := block_lt h1; omega
  · rcases hk with hk | hk
    · exact h'.old k hk
    · omega
theorem InsC.lt (h : InsC pb ps n w2 es M T tv j tvs wr) : pb < wr.heap.size ∧ ps < wr.heap.size := by
  obtain ⟨av, h1, _⟩ := h.bat
  exact ⟨block_lt h1, block_lt h.cell⟩
/-- A store into a member block that is neither ps, nor the tuples' row, nor a finished tuple. -/
theorem InsC.set (h : InsC pb ps n w2 es M T tv j tvs wr) {b o : Nat} (hM : M b) (hT : ¬ T b) (hps : b ≠ ps) (hpb : pb ≤ b) (htv : tv.ownBlock ≠ some b) (u : Value) :
    InsC pb ps n w2 es M T tv j tvs (wr.setCell ⟨b, o, none⟩ u) := by
  have hk : Keep (fun k => k ≠ b) wr (wr.setCell ⟨b, o, none⟩ u) := Keep.refl.setCell (by simp) u
  obtain ⟨av, h1, h2, h3, h4⟩ := h.bat
  have hpb' : pb ≠ b := fun e => h4 (e ▸ hM)
  refine ⟨⟨av, (hk.block pb hpb').trans h1, ownsRow_blk h2 (fun g hg => hk.block g (fun e => h3 g hg (e ▸ hM))), h3, h4⟩, h.old.keep hk.size, h.low, h.mps, h.sub, h.own,
    (hk.block ps (Ne.symm hps)).trans h.cell, ownsRow_blk h.row (fun g hg => hk.block g (fun e => htv (e ▸ hg))),
    fun i hi => (h.arr i hi).keep hk (fun c hc e => hT (e ▸ hc)), h.bel.setCell hpb u⟩
/-- A finished tuple is appended. -/
theorem InsC.app (h : InsC pb ps n w2 es M T tv j tvs wr) {tb g cap : Nat} {cur : Array Value} {w5 : World} (hMt : M tb) (hTt : ¬ T tb) (htt : tv.ownBlock ≠ some tb) (htps : tb ≠ ps) (htpb : pb ≤ tb) (hpb : pb ≤ ps)
    (hcur : wr.heap[tb]? = some (.cells cur 35 (0, 0))) (hcz : cur.size = n) (hcc : ∀ i', i' < n → cur[i']? = some (Value.int .i16 ((j * n + i' : Nat) : Int))) (htl : tvs.length = j)
    (hown : w5.ownsRow (ps + 1) 30 1 (.slice (some ⟨g, 0, none⟩) (j + 1) cap) (j + 1) (tvs ++ [.slice (some ⟨tb, 0, none⟩) n n])) (hgrow : wr.grownBy w5 tv.ownBlock) (hat : tv.ownBlock = some g ∨ g = wr.heap.size) (hg : g < w5.heap.size) :
    InsC pb ps n w2 es (fun k => M k ∨ k = g) (fun k => T k ∨ k = tb) (.slice (some ⟨g, 0, none⟩) (j + 1) cap) (j + 1) (tvs ++ [.slice (some ⟨tb, 0, none⟩) n n])
      (w5.setCell ⟨ps, 9, none⟩ (.slice (some ⟨g, 0, none⟩) (j + 1) cap)) := by
  have hpsne : some ps ≠ tv.ownBlock := fun e => by have := (h.row.lt ps e.symm).1; omega
  have hps5 : w5.heap[ps]? = some (.cells ({ St.mk0 4 tS with tuples := tv } : St).arr 38 (0, 0)) := by rw [hgrow.block ps h.lt.2 hpsne]; exact h.cell
  have hk : Keep (fun k => k < wr.heap.size ∧ some k ≠ tv.ownBlock ∧ k ≠ ps) wr (w5.setCell ⟨ps, 9, none⟩ (.slice (some ⟨g, 0, none⟩) (j + 1) cap)) :=
    (Keep.refl.grown (fun k hk => hk.1) hgrow (fun k e hk => hk.2.1 e.symm)).setCell (fun hh => hh.2.2 rfl) _
  have hgps : g ≠ ps := by have := (hown.lt g rfl).1; omega
  obtain ⟨av, h1, h2, h3, h4⟩ := h.bat
  have hpbX : pb < wr.heap.size ∧ some pb ≠ tv.ownBlock ∧ pb ≠ ps := ⟨block_lt h1, fun e => h4 (h.own pb e.symm).1, fun e => h4 (e ▸ h.mps)⟩
  have havX : ∀ a, av.ownBlock = some a → a < wr.heap.size ∧ some a ≠ tv.ownBlock ∧ a ≠ ps := fun a ha => ⟨(h2.lt a ha).2, fun e => h3 a ha (h.own a e.symm).1, fun e => h3 a ha (e ▸ h.mps)⟩
  have hTX : ∀ b, T b → b < wr.heap.size ∧ some b ≠ tv.ownBlock ∧ b ≠ ps := fun b hb => ⟨h.old b (h.sub b hb).1, fun e => (h.own b e.symm).2 hb, (h.sub b hb).2.1⟩
  refine ⟨⟨av, (hk.block pb hpbX).trans h1, ownsRow_blk h2 (fun a ha => hk.block a (havX a ha)), fun a ha hx => ?_, fun hx => ?_⟩, fun k hx => ?_, fun k hk => .inl (h.low k hk), .inl h.mps, fun k hx => ?_, fun b hb => ?_,
    (heap_set hps5 _).trans (by kernel_rfl), ownsRow_blk hown (fun b hb => ?_), fun i hi => ?_, ?_⟩
  · rcases hx with hx | hx
    · exact h3 a ha hx
    · subst hx
      rcases hat with e | e
      · exact h3 a ha (h.own a e).1
      · have := (h2.lt a ha).2; omega
  · rcases hx with hx | hx
    · exact h4 hx
    · subst hx
      rcases hat with e | e
      · exact h4 (h.own pb e).1
      · have := block_lt h1; omega
  · have : (w5.setCell ⟨ps, 9, none⟩ (.slice (some ⟨g, 0, none⟩) (j + 1) cap)).heap.size = w5.heap.size := by simp
    rw [this]
    rcases hx with hx | hx
    · exact Nat.lt_of_lt_of_le (h.old k hx) hgrow.size
    · omega
  · rcases hx with hx | hx
    · exact ⟨.inl (h.sub k hx).1, (h.sub k hx).2⟩
    · subst hx; exact ⟨.inl hMt, htps, htpb⟩
  · have e : g = b := by simpa [Value.ownBlock] using hb
    subst e
    refine ⟨.inr rfl, fun hx => ?_⟩
    rcases hx with hx | hx
    · rcases hat with e | e
      · exact (h.own g e).2 hx
      · have := h.old g (h.sub g hx).1; omega
    · subst hx
      rcases hat with e | e
      · exact htt e
      · have := block_lt hcur; omega
  · have e : g = b := by simpa [Value.ownBlock] using hb
    subst e
    exact heap_set_ne hgps _
  · by_cases e : i = j
    · subst e
      have e1 : (tvs ++ [Value.slice (some ⟨tb, 0, none⟩) n n]).getD i undef = .slice (some ⟨tb, 0, none⟩) n n := by simp [List.getD_eq_getElem?_getD, ← htl]
      rw [e1]
      have hcur' : (w5.setCell ⟨ps, 9, none⟩ (.slice (some ⟨g, 0, none⟩) (i + 1) cap)).heap[tb]? = some (.cells cur 35 (0, 0)) := (hk.block tb ⟨block_lt hcur, fun e => htt e.symm, htps⟩).trans hcur
      refine ⟨_, n, by simp [tupRow], by simp [tupRow], fun i' hi' => ⟨tb, 0, rfl, .inr rfl, block_lt hcur', fun f hf => ?_⟩⟩
      have hi2 : i' < n := by simpa [tupRow] using hi'
      have hf0 : f = 0 := by omega
      subst hf0
      rw [cell_of_row _ tb _ cur 35 _ hcur']
      have := hcc i' hi2
      simp only [Nat.zero_add, Nat.mul_one, Nat.add_zero]
      rw [this]
      simp [tupRow, List.getD_eq_getElem?_getD, hi2]
    · have e1 : (tvs ++ [Value.slice (some ⟨tb, 0, none⟩) n n]).getD i undef = tvs.getD i undef := by
        simp [List.getD_eq_getElem?_getD, List.getElem?_append_left (show i < tvs.length by omega)]
      rw [e1]
      exact ((h.arr i (by omega)).keep hk hTX).mono (fun b hb => .inl hb)
  · exact (h.bel.grown hgrow (Nat.le_of_lt (block_lt h1)) (fun k e => by have := (h.row.lt k e).1; omega)).setCell hpb _
end

theorem getD_of_lt {α : Type} (l : List α) (i : Nat) (d : α) (h : i < l.length) : l.getD i d = l[i] := by simp [List.getD_eq_getElem?_getD, h]
end Go.Proofs.YgdaegDoor
