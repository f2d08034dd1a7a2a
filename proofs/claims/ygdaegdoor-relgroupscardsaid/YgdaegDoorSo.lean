import Derived.Test.YgdaegDoorGs
import Derived.Test.YgdaegDoorTwo
namespace Go.Proofs.YgdaegDoor
open Go.RowKit
set_option linter.unusedSimpArgs false
set_option linter.unusedVariables false
/-- The two slices that selGroups fills: the rows (of N values) and their keys (none). -/
structure So (B N : Nat) (Rw : Nat → Nat → V) (M : Nat → Prop) (ov : Value) (xs : List Value) (kv : Value) (ks : List Value) (qo qk : Nat) (w : World) : Prop where
  old : ∀ k, M k → k < w.heap.size
  lo : ∀ k, M k → B ≤ k
  oown : w.ownsRow B 94 1 ov qo xs
  kown : w.ownsRow B 94 1 kv qk ks
  ne : ∀ g, ov.ownBlock = some g → kv.ownBlock ≠ some g
  oM : ∀ g, ov.ownBlock = some g → ¬ M g
  kM : ∀ g, kv.ownBlock = some g → ¬ M g
  rows : ∀ i, i < qo → ∃ g, xs.getD i undef = .slice (some ⟨g, 0, none⟩) N N ∧ M g ∧ ∀ t, t < N → w.rangeAt g (t * 4) (Rw i t).list
  keys : ∀ i, i < qk → ∃ a c, ks.getD i undef = .slice a 0 c
section
variable {B N : Nat} {Rw : Nat → Nat → V} {M : Nat → Prop} {ov kv : Value} {xs ks : List Value} {qo qk : Nat} {w w' : World}
theorem So.nil (B N : Nat) (Rw : Nat → Nat → V) (w : World) : So B N Rw (fun _ => False) (.slice none 0 0) [] (.slice none 0 0) [] 0 0 w :=
  ⟨fun _ h => h.elim, fun _ h => h.elim, World.ownsRow_nil _ _ _ _, World.ownsRow_nil _ _ _ _, fun g h => by simp [Value.ownBlock] at h, fun _ _ h => h, fun _ _ h => h, fun i h => absurd h (Nat.not_lt_zero _), fun i h => absurd h (Nat.not_lt_zero _)⟩
theorem So.step {X : Nat → Prop} (h : So B N Rw M ov xs kv ks qo qk w) (hk : Keep X w w') (h1 : ∀ k, M k → X k) (h2 : ∀ g, ov.ownBlock = some g → X g) (h3 : ∀ g, kv.ownBlock = some g → X g) : So B N Rw M ov xs kv ks qo qk w' :=
  ⟨fun k hk' => Nat.lt_of_lt_of_le (h.old k hk') hk.size, h.lo, ownsRow_blk h.oown (fun g hg => hk.block g (h2 g hg)), ownsRow_blk h.kown (fun g hg => hk.block g (h3 g hg)), h.ne, h.oM, h.kM,
    fun i hi => by obtain ⟨g, a1, a2, a3⟩ := h.rows i hi; exact ⟨g, a1, a2, fun t ht => range_keep (a3 t ht) hk (h1 g a2)⟩, h.keys⟩
theorem So.ext (h : So B N Rw M ov xs kv ks qo qk w) (hb : Below w.heap.size w w') : So B N Rw M ov xs kv ks qo qk w' :=
  h.step (X := fun k => k < w.heap.size) (Keep.of_below hb (fun _ h => h)) h.old (fun g hg => (h.oown.lt g hg).2) (fun g hg => (h.kown.lt g hg).2)
/-- A row's block comes. -/
theorem So.more (h : So B N Rw M ov xs kv ks qo qk w) (g : Nat) (hgB : B ≤ g) (hg : g < w.heap.size) (h1 : ov.ownBlock ≠ some g) (h2 : kv.ownBlock ≠ some g) : So B N Rw (fun k => M k ∨ k = g) ov xs kv ks qo qk w :=
  ⟨fun k hk => by rcases hk with hk | rfl; exact h.old k hk; exact hg, fun k hk => by rcases hk with hk | rfl; exact h.lo k hk; exact hgB, h.oown, h.kown, h.ne, fun b hb hm => by rcases hm with hm | rfl; exact h.oM b hb hm; exact h1 hb,
    fun b hb hm => by rcases hm with hm | rfl; exact h.kM b hb hm; exact h2 hb, fun i hi => by obtain ⟨g, a1, a2, a3⟩ := h.rows i hi; exact ⟨g, a1, .inl a2, a3⟩, h.keys⟩
theorem getD_app_l {l : List Value} {x : Value} {i : Nat} (h : i < l.length) : (l ++ [x]).getD i undef = l.getD i undef := by
  rw [List.getD_eq_getElem?_getD, List.getD_eq_getElem?_getD, List.getElem?_append_left h]
theorem getD_app_r {l : List Value} {x : Value} {i : Nat} (h : i = l.length) : (l ++ [x]).getD i undef = x := by
  subst h; simp [List.getD_eq_getElem?_getD]
theorem So.appO (h : So B N Rw M ov xs kv ks qo qk w) {g cap rb : Nat} (hM : M rb) (hr : ∀ t, t < N → w.rangeAt rb (t * 4) (Rw qo t).list)
    (hown : w'.ownsRow B 94 1 (.slice (some ⟨g, 0, none⟩) (qo + 1) cap) (qo + 1) (xs ++ [.slice (some ⟨rb, 0, none⟩) N N])) (hgr : w.grownBy w' ov.ownBlock) (hat : ov.ownBlock = some g ∨ w.heap.size ≤ g) :
    So B N Rw M (.slice (some ⟨g, 0, none⟩) (qo + 1) cap) (xs ++ [.slice (some ⟨rb, 0, none⟩) N N]) kv ks (qo + 1) qk w' := by
  have hk := keep_grown hgr
  have hl : xs.length = qo := by have := h.oown.1; simpa using this
  have hMX : ∀ b, M b → b < w.heap.size ∧ some b ≠ ov.ownBlock := fun b hb => ⟨h.old b hb, fun e => h.oM b e.symm hb⟩
  refine ⟨fun k hk' => Nat.lt_of_lt_of_le (h.old k hk') hk.size, h.lo, hown, ownsRow_blk h.kown (fun b hb => hk.block b ⟨(h.kown.lt b hb).2, fun e => h.ne b e.symm hb⟩), fun b hb e => ?_, fun b hb hm => ?_, h.kM, fun i hi => ?_, h.keys⟩
  · obtain rfl : g = b := by simpa [Value.ownBlock] using hb
    rcases hat with e1 | e1
    · exact h.ne g e1 e
    · have := (h.kown.lt g e).2; omega
  · obtain rfl : g = b := by simpa [Value.ownBlock] using hb
    rcases hat with e1 | e1
    · exact h.oM g e1 hm
    · have := h.old g hm; omega
  · by_cases e : i < qo
    · obtain ⟨g, a1, a2, a3⟩ := h.rows i e
      exact ⟨g, by rw [getD_app_l (by omega)]; exact a1, a2, fun t ht => range_keep (a3 t ht) hk (hMX g a2)⟩
    · obtain rfl : i = qo := by omega
      exact ⟨rb, getD_app_r hl.symm, hM, fun t ht => range_keep (hr t ht) hk (hMX rb hM)⟩
theorem So.appK (h : So B N Rw M ov xs kv ks qo qk w) {g cap : Nat} {a : Option Addr} {c : Nat}
    (hown : w'.ownsRow B 94 1 (.slice (some ⟨g, 0, none⟩) (qk + 1) cap) (qk + 1) (ks ++ [.slice a 0 c])) (hgr : w.grownBy w' kv.ownBlock) (hat : kv.ownBlock = some g ∨ w.heap.size ≤ g) :
    So B N Rw M ov xs (.slice (some ⟨g, 0, none⟩) (qk + 1) cap) (ks ++ [.slice a 0 c]) qo (qk + 1) w' := by
  have hk := keep_grown hgr
  have hl : ks.length = qk := by have := h.kown.1; simpa using this
  have hMX : ∀ b, M b → b < w.heap.size ∧ some b ≠ kv.ownBlock := fun b hb => ⟨h.old b hb, fun e => h.kM b e.symm hb⟩
  refine ⟨fun k hk' => Nat.lt_of_lt_of_le (h.old k hk') hk.size, h.lo, ownsRow_blk h.oown (fun b hb => hk.block b ⟨(h.oown.lt b hb).2, fun e => h.ne b hb e.symm⟩), hown, fun b hb e => ?_, h.oM, fun b hb hm => ?_, fun i hi => ?_, fun i hi => ?_⟩
  · obtain rfl : g = b := by simpa [Value.ownBlock] using e
    rcases hat with e1 | e1
    · exact h.ne g hb e1
    · have := (h.oown.lt g hb).2; omega
  · obtain rfl : g = b := by simpa [Value.ownBlock] using hb
    rcases hat with e1 | e1
    · exact h.kM g e1 hm
    · have := h.old g hm; omega
  · obtain ⟨g, a1, a2, a3⟩ := h.rows i hi
    exact ⟨g, a1, a2, fun t ht => range_keep (a3 t ht) hk (hMX g a2)⟩
  · by_cases e : i < qk
    · obtain ⟨a', c', h1⟩ := h.keys i e
      exact ⟨a', c', by rw [getD_app_l (by omega)]; exact h1⟩
    · exact ⟨a, c, getD_app_r (by omega)⟩
end
/-- Values, one behind the other. -/
def flatV (f : Nat → V) : Nat → List Value
  | 0 => []
  | t + 1 => flatV f t ++ (f t).list
theorem flatV_len (f : Nat → V) : ∀ t, (flatV f t).length = t * 4
  | 0 => rfl
  | t + 1 => by rw [flatV, List.length_append, flatV_len f t]; simp [V.list]; omega
theorem flatV_get (f : Nat → V) : ∀ (n t : Nat), t < n → ∀ j v, (f t).list[j]? = some v → (flatV f n)[t * 4 + j]? = some v
  | 0, t, h => absurd h (Nat.not_lt_zero _)
  | n + 1, t, h => fun j v hv => by
    have hj : j < 4 := by
      have h4 : (f t).list.length = 4 := rfl
      have := (List.getElem?_eq_some_iff.1 hv).1
      omega
    unfold flatV
    by_cases e : t < n
    · rw [List.getElem?_append_left (by rw [flatV_len]; omega)]
      exact flatV_get f n t e j v hv
    · obtain rfl : t = n := by omega
      rw [List.getElem?_append_right (by rw [flatV_len]; omega), flatV_len, Nat.add_sub_cancel_left]
      exact hv
theorem own_range {w : World} {B n cap g : Nat} {f : Nat → V} (h : w.ownsRow B 100 4 (.slice (some ⟨g, 0, none⟩) n cap) n (flatV f n)) : ∀ t, t < n → w.rangeAt g (t * 4) (f t).list := fun t ht j v hv => by
  have h1 := h.cells (g := g) rfl _ _ (flatV_get f n t ht j v hv)
  rw [Addr.add_mid, Nat.zero_add] at h1
  exact h1
end Go.Proofs.YgdaegDoor
