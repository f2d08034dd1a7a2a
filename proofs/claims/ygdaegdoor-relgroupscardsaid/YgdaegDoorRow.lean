import Derived.Test.YgdaegDoorArr
set_option linter.unusedSimpArgs false
set_option linter.unusedVariables false
namespace Go.Proofs.YgdaegDoor
open Go.RowKit

section
variable {P : Program} {ops : Array Oper} {rest : List Oper} {o : Oper} {a : Act} {w : World} {Q : Exit → Act → World → Prop} {ty : TypeId} {x y : Operand} {g : Nat} {cells old : Array Value}

/-- A whole block is written. -/
theorem wpList_put (hgd : o.guard = none) (ho : o.op = .store ty x y) (hx : a.eval x = .pointer (some ⟨g, 0, none⟩)) (hy : a.eval y = .agg cells)
    (hi : (P.info? ty).map (·.size) = some cells.size) (h1 : cells.all (·.oneCell') = true) (hg : ∃ old, w.heap[g]? = some (.cells old ty (0, 0)) ∧ old.size = cells.size)
    (h : ∀ w', w'.heap[g]? = some (.cells cells ty (0, 0)) → Keep (fun k => k ≠ g) w w' → w'.heap.size = w.heap.size → wpList P ops Q rest (a.put o.dst undef) w') :
    wpList P ops Q (o :: rest) a w := by
  obtain ⟨old, hg, hold⟩ := hg
  refine wpList_store_row hgd ty x y ho g cells hx hy ty old hg hi hold h1 ?_
  exact h _ (setRow_heap w g old cells ty _ hg) ⟨rfl, rfl, rfl, by simp, fun k hk => setRow_other w g k _ hk⟩ (by simp)
/-- The same at the operation. -/
theorem wp_put {K : Act → World → Prop} (ho : o.op = .store ty x y) (hx : a.eval x = .pointer (some ⟨g, 0, none⟩)) (hy : a.eval y = .agg cells)
    (hi : (P.info? ty).map (·.size) = some cells.size) (h1 : cells.all (·.oneCell') = true) (hg : ∃ old, w.heap[g]? = some (.cells old ty (0, 0)) ∧ old.size = cells.size)
    (h : ∀ w', w'.heap[g]? = some (.cells cells ty (0, 0)) → Keep (fun k => k ≠ g) w w' → w'.heap.size = w.heap.size → K (a.put o.dst undef) w') :
    o.wp P a w K Q := by
  obtain ⟨old, hg, hold⟩ := hg
  refine wp_store_row ty x y ho g cells hx hy ty old hg hi hold h1 ?_
  exact h _ (setRow_heap w g old cells ty _ hg) ⟨rfl, rfl, rfl, by simp, fun k hk => setRow_other w g k _ hk⟩ (by simp)

/-- A whole block is read. -/
theorem wpList_get (d : TypeDesc) (hgd : o.guard = none) (ho : o.op = .load ty x) (hx : a.eval x = .pointer (some ⟨g, 0, none⟩))
    (hu : P.underlying ty = some d) (hd : (match d with | .struct _ | .array _ _ => true | _ => false) = true) (hg : w.heap[g]? = some (.cells cells ty (0, 0))) (hi : (P.info? ty).map (·.size) = some cells.size)
    (h : wpList P ops Q rest (a.put o.dst (.agg cells)) w) : wpList P ops Q (o :: rest) a w :=
  wpList_load_row hgd ty x ho g hx ty cells _ d hg hu hd hi h
end
theorem size38 : (Yaed.prog.info? 38).map (·.size) = some 19 := by kernel_rfl
end Go.Proofs.YgdaegDoor
namespace Go.Proofs.YgdaegDoor
open Go.RowKit
section
variable {P : Program} {w : World} {o : Oper} {a : Act} {Q : Exit → Act → World → Prop} {s x : Operand} {t : TypeId} {base : Nat} {e : TypeId} {size bytes : Nat} {v : Value} {n : Nat} {xs : List Value}
  {nb : Nat} {cs : Array Value} {t' : TypeId} {fr : Nat × Nat}

/-- append of one element, which lies in a block of its own. -/
theorem wp_app1 {K : Act → World → Prop} (base : Nat) (ho : o.op = .call { callee := .builtin .append, args := #[s, x], argTypes := #[t, t] })
    (ht : P.underlying t = some (.slice e)) (hinfo : infoTest P e size bytes = true) (hs : a.eval s = v) (hx : a.eval x = .slice (some ⟨nb, 0, none⟩) 1 1)
    (hown : w.ownsRow base e size v n xs) (hnb : w.heap[nb]? = some (.cells cs t' fr)) (hcs : cs.size = size) (h1 : ∀ u ∈ cs.toList, u.oneCell' = true)
    (hsz : 0 < size) (hn : n < 1000000) (hby : bytes ≤ 1000) (hbase : base ≤ w.heap.size)
    (h : ∀ g cap w', w'.ownsRow base e size (.slice (some ⟨g, 0, none⟩) (n + 1) cap) (n + 1) (xs ++ cs.toList) → w.grownBy w' v.ownBlock → (v.ownBlock = some g ∨ g = w.heap.size) → g < w'.heap.size →
      K (a.put o.dst (.slice (some ⟨g, 0, none⟩) (n + 1) cap)) w') : o.wp P a w K Q := by
  obtain ⟨ii, z, hi, hz, hsi, hbi, hzs⟩ := info_of hinfo
  have hb : (n + 1) * bytes ≤ 140737488355328 := Nat.le_trans (Nat.mul_le_mul (show n + 1 ≤ 1000000 by omega) hby) (by omega)
  exact wp_append_lies w s x t ho base e ii z size bytes ht hi hz hsi hbi hzs hsz v n xs hs hown ⟨nb, 0, none⟩ 1 1 cs.toList hx (by simp [hcs]) (World.news_of_block hnb) h1 (by omega) (by unfold maxLen; omega) hb hbase _ rfl h
theorem wpList_app1 {ops : Array Oper} {rest : List Oper} (base : Nat) (hgd : o.guard = none) (ho : o.op = .call { callee := .builtin .append, args := #[s, x], argTypes := #[t, t] })
    (ht : P.underlying t = some (.slice e)) (hinfo : infoTest P e size bytes = true) (hs : a.eval s = v) (hx : a.eval x = .slice (some ⟨nb, 0, none⟩) 1 1)
    (hown : w.ownsRow base e size v n xs) (hnb : w.heap[nb]? = some (.cells cs t' fr)) (hcs : cs.size = size) (h1 : ∀ u ∈ cs.toList, u.oneCell' = true)
    (hsz : 0 < size) (hn : n < 1000000) (hby : bytes ≤ 1000) (hbase : base ≤ w.heap.size)
    (h : ∀ g cap w', w'.ownsRow base e size (.slice (some ⟨g, 0, none⟩) (n + 1) cap) (n + 1) (xs ++ cs.toList) → w.grownBy w' v.ownBlock → (v.ownBlock = some g ∨ g = w.heap.size) → g < w'.heap.size →
      wpList P ops Q rest (a.put o.dst (.slice (some ⟨g, 0, none⟩) (n + 1) cap)) w') : wpList P ops Q (o :: rest) a w :=
  wpList_plain hgd fun _ hK => wp_app1 base ho ht hinfo hs hx hown hnb hcs h1 hsz hn hby hbase fun g cap w' h2 h3 h4 h5 => hK _ _ (h g cap w' h2 h3 h4 h5)
end
theorem info109 : infoTest Yaed.prog 109 3 24 = true := by kernel_rfl
theorem info100 : infoTest Yaed.prog 100 4 40 = true := by kernel_rfl
theorem info30 : infoTest Yaed.prog 30 1 24 = true := by kernel_rfl
theorem info35 : infoTest Yaed.prog 35 1 2 = true := by kernel_rfl
theorem info94 : infoTest Yaed.prog 94 1 24 = true := by kernel_rfl
theorem info2 : infoTest Yaed.prog 2 1 8 = true := by kernel_rfl
theorem info3 : infoTest Yaed.prog 3 1 8 = true := by kernel_rfl
end Go.Proofs.YgdaegDoor
namespace Go.Proofs.YgdaegDoor
open Go.RowKit
section
variable {P : Program} {w : World} {o : Oper} {a : Act} {Q : Exit → Act → World → Prop} {l c : Operand} {t e : TypeId} {size bytes n : Nat} {kl kc : IntKind}
/-- make([]T, n). -/
theorem wp_mk {K : Act → World → Prop} (hop : o.op = .makeSlice t l c) (ht : P.underlying t = some (.slice e)) (hinfo : infoTest P e size bytes = true)
    (hl : a.eval l = .int kl (n : Nat)) (hc : a.eval c = .int kc (n : Nat)) (hn : n < 1000000) (hby : bytes ≤ 1000)
    (h : ∀ w' cs, w'.heap[w.heap.size]? = some (.cells cs e (0, 0)) → cs.size = n * size → Below w.heap.size w w' → w'.heap.size = w.heap.size + 1 →
      (∀ i z, P.info? e = some i → i.zero = some z → cs = madeCells z.cells (n * size)) → K (a.put o.dst (.slice (some ⟨w.heap.size, 0, none⟩) n n)) w') : o.wp P a w K Q := by
  obtain ⟨ii, z, hi, hz, hsi, hbi, hzs⟩ := info_of hinfo
  have hb : (ii.bytes : Int) * (n : Int) ≤ 281474976710656 := by
    have h1 : bytes * n ≤ 1000 * 1000000 := Nat.mul_le_mul hby (by omega)
    have h2 : ((ii.bytes * n : Nat) : Int) ≤ ((1000 * 1000000 : Nat) : Int) := by rw [hbi]; exact Int.ofNat_le.2 h1
    rw [Int.natCast_mul] at h2
    omega
  have hr := run_make (P := P) w t e ii z ht hi hz kl kc n n (by omega) (by omega) hb (by omega)
  unfold Oper.wp execOp
  simp only [hop, hl, hc, Sem.run_bind, hr, Result.andThen_ok, Sem.run_pure, Int.toNat_natCast]
  refine h _ _ (heap_alloc_new w _) ?_ ((Below.refl _ _).alloc (Nat.le_refl _) _) (by simp) ?_
  · rw [hsi]
    simp [madeCells]
  · intro i z' hi' hz'
    rw [hi] at hi'
    cases hi'
    rw [hz] at hz'
    cases hz'
    rw [hsi]
theorem wpList_mk {ops : Array Oper} {rest : List Oper} (hgd : o.guard = none) (hop : o.op = .makeSlice t l c) (ht : P.underlying t = some (.slice e)) (hinfo : infoTest P e size bytes = true)
    (hl : a.eval l = .int kl (n : Nat)) (hc : a.eval c = .int kc (n : Nat)) (hn : n < 1000000) (hby : bytes ≤ 1000)
    (h : ∀ w' cs, w'.heap[w.heap.size]? = some (.cells cs e (0, 0)) → cs.size = n * size → Below w.heap.size w w' → w'.heap.size = w.heap.size + 1 →
      (∀ i z, P.info? e = some i → i.zero = some z → cs = madeCells z.cells (n * size)) → wpList P ops Q rest (a.put o.dst (.slice (some ⟨w.heap.size, 0, none⟩) n n)) w') : wpList P ops Q (o :: rest) a w :=
  wpList_plain hgd fun _ hK => wp_mk hop ht hinfo hl hc hn hby fun w' cs h1 h2 h3 h4 h5 => hK _ _ (h w' cs h1 h2 h3 h4 h5)
end
end Go.Proofs.YgdaegDoor
