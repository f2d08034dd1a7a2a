import Derived.Test.YgdaegDoorSame
import Derived.Test.YgdaegDoorSo
namespace Go.Proofs.YgdaegDoor
open Go.RowKit
set_option linter.unusedSimpArgs false
set_option linter.unusedVariables false
/-- The law's rows, opened. -/
structure LR (w : World) (rb ro n : Nat) (rs : List (List V)) : Prop where
  lt : rb < w.heap.size
  rows : ∀ k, k < rs.length → ∃ xb xo xc, w.cell? ⟨rb, ro + k, none⟩ = some (.slice (some ⟨xb, xo, none⟩) n xc) ∧ xb < w.heap.size ∧ ∀ c, c < n → w.rangeAt xb (xo + c * 4) ((rs.getD k []).getD c V0).list
theorem LR.ext {w w' : World} {rb ro n : Nat} {rs : List (List V)} (h : LR w rb ro n rs) (hb : Below w.heap.size w w') : LR w' rb ro n rs := by
  refine ⟨Nat.lt_of_lt_of_le h.lt hb.size, fun k hk => ?_⟩
  obtain ⟨xb, xo, xc, h1, h2, h3⟩ := h.rows k hk
  exact ⟨xb, xo, xc, by rw [hb.cell (p := ⟨rb, _, none⟩) h.lt]; exact h1, Nat.lt_of_lt_of_le h2 hb.size, fun c hc => range_ext (h3 c hc) hb h2⟩
def flatL : List V → List Value
  | [] => []
  | v :: r => v.list ++ flatL r
theorem flatL_snoc : ∀ (l : List V) (v : V), flatL (l ++ [v]) = flatL l ++ v.list
  | [], v => by simp [flatL]
  | a :: l, v => by simp [flatL, flatL_snoc l v]
theorem flatL_get : ∀ (l : List V) (t : Nat), t < l.length → ∀ j x, (l.getD t V0).list[j]? = some x → (flatL l)[t * 4 + j]? = some x
  | [], t, h => absurd h (Nat.not_lt_zero _)
  | a :: l, 0, _ => fun j x hx => by
    have hj : j < a.list.length := (List.getElem?_eq_some_iff.1 hx).1
    rw [Nat.zero_mul, Nat.zero_add, flatL, List.getElem?_append_left hj]
    exact hx
  | a :: l, t + 1, h => fun j x hx => by
    have h4 : a.list.length = 4 := rfl
    rw [flatL, List.getElem?_append_right (by omega), show (t + 1) * 4 + j - a.list.length = t * 4 + j by omega]
    exact flatL_get l t (by simpa using h) j x hx
theorem ownL_range {w : World} {B n cap g : Nat} {l : List V} (hl : n = l.length) (h : w.ownsRow B 100 4 (.slice (some ⟨g, 0, none⟩) n cap) n (flatL l)) : ∀ t, t < n → w.rangeAt g (t * 4) (l.getD t V0).list := fun t ht j v hv => by
  have h1 := h.cells (g := g) rfl _ _ (flatL_get l t (by omega) j v hv)
  rw [Addr.add_mid, Nat.zero_add] at h1
  exact h1
theorem min_t {l : List V} {a v : V} {n : Nat} (h : foldA .min l = (a, n)) (hk : (v.k == 0) = false) (hz : (n == 0 || decide (cmpV v a < 0)) = true) : foldA .min (l ++ [v]) = (v, n + 1) := by
  rw [foldA_snoc, h]; simp only [Ag.step, stMin]; rw [hk, hz]; rfl
theorem min_f {l : List V} {a v : V} {n : Nat} (h : foldA .min l = (a, n)) (hk : (v.k == 0) = false) (hz : (n == 0 || decide (cmpV v a < 0)) = false) : foldA .min (l ++ [v]) = (a, n + 1) := by
  rw [foldA_snoc, h]; simp only [Ag.step, stMin]; rw [hk, hz]; rfl
theorem max_t {l : List V} {a v : V} {n : Nat} (h : foldA .max l = (a, n)) (hk : (v.k == 0) = false) (hz : (n == 0 || decide (0 < cmpV v a)) = true) : foldA .max (l ++ [v]) = (v, n + 1) := by
  rw [foldA_snoc, h]; simp only [Ag.step, stMax]; rw [hk, hz]; rfl
theorem max_f {l : List V} {a v : V} {n : Nat} (h : foldA .max l = (a, n)) (hk : (v.k == 0) = false) (hz : (n == 0 || decide (0 < cmpV v a)) = false) : foldA .max (l ++ [v]) = (a, n + 1) := by
  rw [foldA_snoc, h]; simp only [Ag.step, stMax]; rw [hk, hz]; rfl
theorem min_n {l : List V} {a v : V} {n : Nat} (h : foldA .min l = (a, n)) (hk : (v.k == 0) = true) : foldA .min (l ++ [v]) = (a, n) := by
  rw [foldA_snoc, h]; simp only [Ag.step, stMin]; rw [hk]; rfl
theorem max_n {l : List V} {a v : V} {n : Nat} (h : foldA .max l = (a, n)) (hk : (v.k == 0) = true) : foldA .max (l ++ [v]) = (a, n) := by
  rw [foldA_snoc, h]; simp only [Ag.step, stMax]; rw [hk]; rfl
theorem nums_t {l : List V} {v : V} (h : numB v.k = true) : numsL (l ++ [v]) = numsL l ++ [v] := by
  unfold numsL; rw [List.filter_append]; simp [List.filter, h]
theorem nums_f {l : List V} {v : V} (h : numB v.k = false) : numsL (l ++ [v]) = numsL l := by
  unfold numsL; rw [List.filter_append]; simp [List.filter, h]
theorem nums_le (l : List V) : (numsL l).length ≤ l.length := List.length_filter_le _ _
/-- The call as it stands in its loop. -/
structure GR (w : World) (GB LB MB B : Nat) (gv least most : V) (na : Option Addr) (nc : Nat) (ns : List V) (wr : World) : Prop where
  bel : Below w.heap.size w wr
  sz : B ≤ wr.heap.size
  hg : wr.heap[GB]? = some (.cells #[.int .u8 gv.k, .int .i64 gv.i, .float .f64 gv.r, .string gv.s] 100 (0, 0))
  hl : wr.heap[LB]? = some (.cells #[.int .u8 least.k, .int .i64 least.i, .float .f64 least.r, .string least.s] 100 (0, 0))
  hm : wr.heap[MB]? = some (.cells #[.int .u8 most.k, .int .i64 most.i, .float .f64 most.r, .string most.s] 100 (0, 0))
  own : wr.ownsRow B 100 4 (.slice na ns.length nc) ns.length (flatL ns)
theorem GR.ext {w : World} {GB LB MB B : Nat} {gv least most : V} {na : Option Addr} {nc : Nat} {ns : List V} {wr wr' : World} (h : GR w GB LB MB B gv least most na nc ns wr) (hw : w.heap.size ≤ wr.heap.size) (hb : Below wr.heap.size wr wr') : GR w GB LB MB B gv least most na nc ns wr' :=
  ⟨h.bel.trans (hb.mono hw), Nat.le_trans h.sz hb.size, (hb.block _ (block_lt h.hg)).trans h.hg, (hb.block _ (block_lt h.hl)).trans h.hl, (hb.block _ (block_lt h.hm)).trans h.hm, ownsRow_ext h.own hb⟩
theorem GR.setL {w : World} {GB LB MB B : Nat} {gv least most v : V} {na : Option Addr} {nc : Nat} {ns : List V} {wr wr' : World} (h : GR w GB LB MB B gv least most na nc ns wr) (hwL : w.heap.size ≤ LB) (hGL : GB ≠ LB) (hML : MB ≠ LB) (hLB : LB < B) (hk : Keep (fun k => k ≠ LB) wr wr')
    (hl : wr'.heap[LB]? = some (.cells #[.int .u8 v.k, .int .i64 v.i, .float .f64 v.r, .string v.s] 100 (0, 0))) : GR w GB LB MB B gv v most na nc ns wr' :=
  ⟨h.bel.trans (hk.below (fun k hk => by show k ≠ LB; omega)), Nat.le_trans h.sz hk.size, (hk.block _ hGL).trans h.hg, hl, (hk.block _ hML).trans h.hm, ownsRow_blk h.own (fun g hg => hk.block g (by have := (h.own.lt g hg).1; show g ≠ LB; omega))⟩
theorem GR.setM {w : World} {GB LB MB B : Nat} {gv least most v : V} {na : Option Addr} {nc : Nat} {ns : List V} {wr wr' : World} (h : GR w GB LB MB B gv least most na nc ns wr) (hwM : w.heap.size ≤ MB) (hGM : GB ≠ MB) (hLM : LB ≠ MB) (hMB : MB < B) (hk : Keep (fun k => k ≠ MB) wr wr')
    (hm : wr'.heap[MB]? = some (.cells #[.int .u8 v.k, .int .i64 v.i, .float .f64 v.r, .string v.s] 100 (0, 0))) : GR w GB LB MB B gv least v na nc ns wr' :=
  ⟨h.bel.trans (hk.below (fun k hk => by show k ≠ MB; omega)), Nat.le_trans h.sz hk.size, (hk.block _ hGM).trans h.hg, (hk.block _ hLM).trans h.hl, hm, ownsRow_blk h.own (fun g hg => hk.block g (by have := (h.own.lt g hg).1; show g ≠ MB; omega))⟩
theorem GR.app {w : World} {GB LB MB B : Nat} {gv least most v : V} {na : Option Addr} {nc : Nat} {ns : List V} {wr wr' : World} (h : GR w GB LB MB B gv least most na nc ns wr) (hGB : GB < B) (hLB : LB < B) (hMB : MB < B) (hwB : w.heap.size ≤ B) {g cap : Nat}
    (hown : wr'.ownsRow B 100 4 (.slice (some ⟨g, 0, none⟩) (ns.length + 1) cap) (ns.length + 1) (flatL ns ++ v.list)) (hgr : wr.grownBy wr' (Value.slice na ns.length nc).ownBlock) : GR w GB LB MB B gv least most (some ⟨g, 0, none⟩) cap (ns ++ [v]) wr' := by
  have hk := keep_grown hgr
  have hX : ∀ k, k < B → k < wr.heap.size ∧ some k ≠ (Value.slice na ns.length nc).ownBlock := fun k hk => ⟨Nat.lt_of_lt_of_le hk h.sz, fun e => by have := (h.own.lt k e.symm).1; omega⟩
  refine ⟨h.bel.trans (hk.below (fun k hk => hX k (by omega))), Nat.le_trans h.sz hk.size, (hk.block _ (hX _ hGB)).trans h.hg, (hk.block _ (hX _ hLB)).trans h.hl, (hk.block _ (hX _ hMB)).trans h.hm, ?_⟩
  rw [flatL_snoc, List.length_append]
  exact hown
/-- Three that may come up. -/
theorem wpAnyH_three {P : Program} {S : World → Prop} {l : List Oper} {K : Act → World → Prop} {fuel : Nat} {listed : Array Bool} {a : Act} {w : World} {i j k : Nat} {o o' o2 : Oper} (hr : Region.ready .any l.toArray listed = [i, j, k])
    (ho : l[i]? = some o) (hw : Region.wanted o (yielded l.toArray a.tmps) = true) (ho' : l[j]? = some o') (hw' : Region.wanted o' (yielded l.toArray a.tmps) = true) (ho2 : l[k]? = some o2) (hw2 : Region.wanted o2 (yielded l.toArray a.tmps) = true)
    (h : ∀ K' : Act → World → Prop, (∀ a' w', S w' ∧ wpAnyH P .any l.toArray (onlyN K) S fuel (listed.setIfInBounds i true) a' w' → K' a' w') → o.wp P a w K' (fun _ _ _ => False))
    (h' : ∀ K' : Act → World → Prop, (∀ a' w', S w' ∧ wpAnyH P .any l.toArray (onlyN K) S fuel (listed.setIfInBounds j true) a' w' → K' a' w') → o'.wp P a w K' (fun _ _ _ => False))
    (h2 : ∀ K' : Act → World → Prop, (∀ a' w', S w' ∧ wpAnyH P .any l.toArray (onlyN K) S fuel (listed.setIfInBounds k true) a' w' → K' a' w') → o2.wp P a w K' (fun _ _ _ => False)) :
    wpAnyH P .any l.toArray (onlyN K) S (fuel + 1) listed a w := by
  refine wpAnyH_branch [i, j, k] hr (by simp) (fun q hq => ?_)
  have : q = i ∨ q = j ∨ q = k := by simpa using hq
  rcases this with rfl | rfl | rfl
  · exact ⟨o, ho, hw, h _ (fun _ _ h => h)⟩
  · exact ⟨o', ho', hw', h' _ (fun _ _ h => h)⟩
  · exact ⟨o2, ho2, hw2, h2 _ (fun _ _ h => h)⟩
end Go.Proofs.YgdaegDoor
