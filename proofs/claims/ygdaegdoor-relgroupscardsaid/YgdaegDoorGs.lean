import Derived.Test.YgdaegDoorPlain
import Derived.Test.YgdaegDoorIns
import Derived.Test.YgdaegDoorMid
namespace Go.Proofs.YgdaegDoor
open Go.RowKit
set_option linter.unusedSimpArgs false
set_option linter.unusedVariables false
/-- The cells of group structs, one behind the other. -/
def flat2 : List (Value × Value) → List Value
  | [] => []
  | p :: r => p.1 :: p.2 :: flat2 r
abbrev pAt (xs : List (Value × Value)) (i : Nat) : Value × Value := xs.getD i (undef, undef)
theorem flat2_len : ∀ xs : List (Value × Value), (flat2 xs).length = xs.length * 2
  | [] => rfl
  | p :: r => by simp [flat2, flat2_len r]; omega
theorem flat2_app : ∀ (xs ys : List (Value × Value)), flat2 (xs ++ ys) = flat2 xs ++ flat2 ys
  | [], ys => rfl
  | p :: r, ys => by simp [flat2, flat2_app r ys]
theorem flat2_get : ∀ (xs : List (Value × Value)) (i : Nat), i < xs.length → (flat2 xs)[i * 2]? = some (pAt xs i).1 ∧ (flat2 xs)[i * 2 + 1]? = some (pAt xs i).2
  | [], i, h => by simp at h
  | p :: r, 0, _ => by simp [flat2, pAt]
  | p :: r, i + 1, h => by
    have := flat2_get r i (by simpa using h)
    rw [show (i + 1) * 2 = i * 2 + 1 + 1 by omega, show i * 2 + 1 + 1 + 1 = (i * 2 + 1) + 1 + 1 by omega]
    simpa [flat2, pAt] using this
theorem flat2_set1 : ∀ (xs : List (Value × Value)) (i : Nat) (v : Value), (flat2 xs).set (i * 2) v = flat2 (xs.set i (v, (pAt xs i).2))
  | [], i, v => by simp [flat2]
  | p :: r, 0, v => by simp [flat2, pAt]
  | p :: r, i + 1, v => by
    rw [show (i + 1) * 2 = i * 2 + 1 + 1 by omega]
    simp [flat2, pAt, flat2_set1 r i v]
theorem flat2_set2 : ∀ (xs : List (Value × Value)) (i : Nat) (v : Value), (flat2 xs).set (i * 2 + 1) v = flat2 (xs.set i ((pAt xs i).1, v))
  | [], i, v => by simp [flat2]
  | p :: r, 0, v => by simp [flat2, pAt]
  | p :: r, i + 1, v => by
    rw [show (i + 1) * 2 + 1 = (i * 2 + 1) + 1 + 1 by omega]
    simp [flat2, pAt, flat2_set2 r i v]
theorem ownsRow_set {w : World} {base : Nat} {e : TypeId} {size n cap g k : Nat} {xs : List Value} (h : w.ownsRow base e size (.slice (some ⟨g, 0, none⟩) n cap) n xs) (u : Value) :
    (w.setCell ⟨g, k, none⟩ u).ownsRow base e size (.slice (some ⟨g, 0, none⟩) n cap) n (xs.set k u) := by
  obtain ⟨h1, h2⟩ := h
  refine ⟨by simpa using h1, ?_⟩
  rcases h2 with h2 | ⟨g', cap', cur, hv, hg, hh, a1, a2, a3, a4⟩
  · exact absurd h2.1 (by simp)
  · obtain ⟨rfl, rfl⟩ : g = g' ∧ cap = cap' := by simpa using hv
    refine .inr ⟨g, cap, cur.setIfInBounds k u, rfl, hg, heap_set hh u, a1, a2, by simpa using a3, ?_⟩
    rw [← a4, Array.toList_setIfInBounds, List.take_set]
/-- One group in memory. -/
def GE (B : Nat) (kf : Nat → V) (x : Value × Value) (p : Gr) (w : World) : Prop :=
  (∃ kb kc z, x.1 = .slice (some ⟨kb, 0, none⟩) 1 kc ∧ w.heap[kb]? = some (.cells z 100 (0, 0)) ∧ w.rangeAt kb 0 (kf p.1).list) ∧
    w.ownsRow B 3 1 x.2 p.2.length (p.2.map fun (n : Nat) => Value.int .i64 (n : Int))
/-- The slice of the groups. -/
structure Gs (B : Nat) (kf : Nat → V) (gv : Value) (xs : List (Value × Value)) (L : List Gr) (w : World) : Prop where
  len : xs.length = L.length
  own : w.ownsRow B 284 2 gv L.length (flat2 xs)
  ent : ∀ i, i < L.length → GE B kf (pAt xs i) (gAt L i) w
  sep : ∀ i j g, i < L.length → j < L.length → i ≠ j → (pAt xs i).2.ownBlock = some g → (pAt xs j).2.ownBlock ≠ some g
section
variable {B : Nat} {kf : Nat → V} {gv : Value} {xs : List (Value × Value)} {L : List Gr} {w w' : World} {x : Value × Value} {p : Gr}
theorem own_type {e : TypeId} {size n : Nat} {v : Value} {ys : List Value} (h : w.ownsRow B e size v n ys) {g : Nat} (hg : v.ownBlock = some g) : ∃ z, w.heap[g]? = some (.cells z e (0, 0)) := by
  rcases h.2 with ⟨rfl, _⟩ | ⟨g', cap, cur, rfl, _, hh, _⟩
  · simp [Value.ownBlock] at hg
  · obtain rfl : g' = g := by simpa [Value.ownBlock] using hg
    exact ⟨_, hh⟩
theorem type_ne {g : Nat} {z z' : Array Value} {e e' : TypeId} {f f' : Nat × Nat} (h : w.heap[g]? = some (.cells z e f)) (h' : w.heap[g]? = some (.cells z' e' f')) : e = e' := by
  rw [h] at h'
  simp only [Option.some.injEq, Obj.cells.injEq] at h'
  exact h'.2.1
theorem GE.blk (h : GE B kf x p w) (h1 : ∀ (kb : Nat) (z : Array Value), w.heap[kb]? = some (Obj.cells z 100 (0, 0)) → w'.heap[kb]? = w.heap[kb]?) (h2 : ∀ g, x.2.ownBlock = some g → w'.heap[g]? = w.heap[g]?) : GE B kf x p w' := by
  obtain ⟨⟨kb, kc, z, e1, e2, e3⟩, e4⟩ := h
  have hk := h1 kb z e2
  exact ⟨⟨kb, kc, z, e1, hk.trans e2, fun i u hu => by rw [World.cell?_of_block (w := w) (a := ⟨kb, _, none⟩) hk]; exact e3 i u hu⟩, ownsRow_blk e4 h2⟩
theorem GE.ext (h : GE B kf x p w) (hb : Below w.heap.size w w') : GE B kf x p w' :=
  h.blk (fun kb z hz => hb.block _ (block_lt hz)) (fun g hg => hb.block _ (h.2.lt g hg).2)
theorem Gs.nil (B : Nat) (kf : Nat → V) (w : World) : Gs B kf (.slice none 0 0) [] [] w :=
  ⟨rfl, World.ownsRow_nil _ _ _ _, fun i hi => absurd hi (Nat.not_lt_zero _), fun i j g hi => absurd hi (Nat.not_lt_zero _)⟩
theorem Gs.ext (h : Gs B kf gv xs L w) (hb : Below w.heap.size w w') : Gs B kf gv xs L w' :=
  ⟨h.len, ownsRow_blk h.own (fun g hg => hb.block _ (h.own.lt g hg).2), fun i hi => (h.ent i hi).ext hb, h.sep⟩
theorem Gs.gat (h : Gs B kf gv xs L w) (h0 : 0 < L.length) : ∃ gb cap, gv = .slice (some ⟨gb, 0, none⟩) L.length cap ∧ B ≤ gb ∧ gb < w.heap.size ∧ L.length ≤ cap ∧ (∀ (z : Array Value) (e : TypeId) (f : Nat × Nat), w.heap[gb]? = some (Obj.cells z e f) → e = 284) ∧ w.there gb 0 (L.length * 2) ∧
    ∀ i, i < L.length → w.cell? ⟨gb, i * 2, none⟩ = some (pAt xs i).1 ∧ w.cell? ⟨gb, i * 2 + 1, none⟩ = some (pAt xs i).2 := by
  rcases h.own.2 with ⟨_, h1⟩ | ⟨g, cap, cur, rfl, h1, h2, h3, h4, h5, h6⟩
  · omega
  · refine ⟨g, cap, rfl, h1, block_lt h2, h3, fun z e f hz => (type_ne h2 hz).symm, ?_, fun i hi => ?_⟩
    · exact there_block h2 0 _ (by have := Nat.mul_le_mul_right 2 h3; omega)
    · have hc := h.own.cells (g := g) rfl
      have := flat2_get xs i (by rw [h.len]; exact hi)
      have a1 := hc _ _ this.1
      have a2 := hc _ _ this.2
      rw [Addr.add_mid, Nat.zero_add] at a1 a2
      exact ⟨a1, a2⟩
theorem Gs.shape (h : Gs B kf gv xs L w) : ∃ a cap, gv = .slice a L.length cap := by
  rcases h.own.2 with ⟨rfl, h1⟩ | ⟨g, cap, cur, rfl, _⟩
  · exact ⟨none, 0, by rw [h1]⟩
  · exact ⟨_, cap, rfl⟩
theorem pAt_app_l {y : Value × Value} {i : Nat} (h : i < xs.length) : pAt (xs ++ [y]) i = pAt xs i := by
  simp [pAt, List.getD_eq_getElem?_getD, List.getElem?_append_left h]
theorem pAt_app_r {y : Value × Value} {i : Nat} (h : i = xs.length) : pAt (xs ++ [y]) i = y := by
  subst h; simp [pAt, List.getD_eq_getElem?_getD]
theorem gAt_app_l {y : Gr} {i : Nat} (h : i < L.length) : gAt (L ++ [y]) i = gAt L i := by
  simp [gAt, List.getD_eq_getElem?_getD, List.getElem?_append_left h]
theorem gAt_app_r {y : Gr} {i : Nat} (h : i = L.length) : gAt (L ++ [y]) i = y := by
  subst h; simp [gAt, List.getD_eq_getElem?_getD]
theorem pAt_set {y : Value × Value} {i k : Nat} (h : k < xs.length) : pAt (xs.set k y) i = if i = k then y else pAt xs i := by
  unfold pAt
  rw [List.getD_eq_getElem?_getD, List.getD_eq_getElem?_getD, List.getElem?_set]
  by_cases e : i = k
  · subst e; simp [h]
  · rw [if_neg (fun h => e h.symm), if_neg e]
theorem gAt_set {y : Gr} {i k : Nat} (h : k < L.length) : gAt (L.set k y) i = if i = k then y else gAt L i := by
  unfold gAt
  rw [List.getD_eq_getElem?_getD, List.getD_eq_getElem?_getD, List.getElem?_set]
  by_cases e : i = k
  · subst e; simp [h]
  · rw [if_neg (fun h => e h.symm), if_neg e]
/-- The row block of a group is not the block of the groups. -/
theorem Gs.rne (h : Gs B kf gv xs L w) {i g : Nat} (hi : i < L.length) (hg : (pAt xs i).2.ownBlock = some g) : gv.ownBlock ≠ some g := by
  intro e
  obtain ⟨z, hz⟩ := own_type (h.ent i hi).2 hg
  obtain ⟨z', hz'⟩ := own_type h.own e
  have := type_ne hz hz'
  exact absurd this (by decide)
/-- A new group. -/
theorem Gs.push (h : Gs B kf gv xs L w) {g cap r : Nat} {kv : Value} {kb kc : Nat} {z : Array Value} (hkv : kv = .slice (some ⟨kb, 0, none⟩) 1 kc) (hkb : w.heap[kb]? = some (.cells z 100 (0, 0))) (hkr : w.rangeAt kb 0 (kf r).list)
    (hown : w'.ownsRow B 284 2 (.slice (some ⟨g, 0, none⟩) (L.length + 1) cap) (L.length + 1) (flat2 xs ++ [kv, .slice none 0 0])) (hgr : w.grownBy w' gv.ownBlock) :
    Gs B kf (.slice (some ⟨g, 0, none⟩) (L.length + 1) cap) (xs ++ [(kv, .slice none 0 0)]) (L ++ [(r, [])]) w' := by
  have hk1 : ∀ (kb : Nat) (z : Array Value), w.heap[kb]? = some (Obj.cells z 100 (0, 0)) → w'.heap[kb]? = w.heap[kb]? := fun kb z hz => hgr.block kb (block_lt hz) (fun e => by
    obtain ⟨z', hz'⟩ := own_type h.own e.symm
    have := type_ne hz hz'
    exact absurd this (by decide))
  refine ⟨by simp [h.len], by rw [flat2_app]; simpa [flat2] using hown, fun i hi => ?_, fun i j b hi hj hij hb hb' => ?_⟩
  · by_cases e : i < L.length
    · rw [pAt_app_l (by rw [h.len]; exact e), gAt_app_l e]
      exact (h.ent i e).blk hk1 (fun b hb => hgr.block b ((h.ent i e).2.lt b hb).2 (fun e' => h.rne e hb e'.symm))
    · have e' : i = L.length := by simp at hi; omega
      rw [pAt_app_r (by rw [h.len]; exact e'), gAt_app_r e']
      refine ⟨⟨kb, kc, z, hkv, (hk1 kb z hkb).trans hkb, fun i u hu => ?_⟩, World.ownsRow_nil _ _ _ _⟩
      rw [World.cell?_of_block (w := w) (a := ⟨kb, _, none⟩) (hk1 kb z hkb)]; exact hkr i u hu
  · simp only [List.length_append, List.length_singleton] at hi hj
    by_cases e : i < L.length
    · by_cases e2 : j < L.length
      · rw [pAt_app_l (by rw [h.len]; exact e)] at hb
        rw [pAt_app_l (by rw [h.len]; exact e2)] at hb'
        exact h.sep i j b e e2 hij hb hb'
      · rw [pAt_app_r (by rw [h.len]; omega)] at hb'
        simp [Value.ownBlock] at hb'
    · rw [pAt_app_r (by rw [h.len]; omega)] at hb
      simp [Value.ownBlock] at hb
/-- A row joins a group. -/
theorem Gs.app (h : Gs B kf gv xs L w) {i g cap r gb gc : Nat} (hi : i < L.length) (hgv : gv = .slice (some ⟨gb, 0, none⟩) L.length gc)
    (hown : w'.ownsRow B 3 1 (.slice (some ⟨g, 0, none⟩) ((gAt L i).2.length + 1) cap) ((gAt L i).2.length + 1) (((gAt L i).2.map fun (n : Nat) => Value.int .i64 (n : Int)) ++ [.int .i64 (r : Int)])) (hgr : w.grownBy w' (pAt xs i).2.ownBlock)
    (hat : (pAt xs i).2.ownBlock = some g ∨ w.heap.size ≤ g) :
    Gs B kf gv (xs.set i ((pAt xs i).1, .slice (some ⟨g, 0, none⟩) ((gAt L i).2.length + 1) cap)) (joinG L i r) (w'.setCell ⟨gb, i * 2 + 1, none⟩ (.slice (some ⟨g, 0, none⟩) ((gAt L i).2.length + 1) cap)) := by
  subst hgv
  have hxl : i < xs.length := by rw [h.len]; exact hi
  have hgb := (h.own.lt gb rfl).2
  have hne : ∀ j b, j < L.length → (pAt xs j).2.ownBlock = some b → b ≠ gb := fun j b hj hb e => h.rne hj hb (by simp [Value.ownBlock, e])
  have hggb : g ≠ gb := by
    rcases hat with e | e
    · exact hne i g hi e
    · omega
  have hown' : w'.ownsRow B 284 2 (.slice (some ⟨gb, 0, none⟩) L.length gc) L.length (flat2 xs) := h.own.kept hgr (.inr (fun e => h.rne hi e.symm rfl))
  have hk1 : ∀ (kb : Nat) (z : Array Value), w.heap[kb]? = some (Obj.cells z 100 (0, 0)) → (w'.setCell ⟨gb, i * 2 + 1, none⟩ (.slice (some ⟨g, 0, none⟩) ((gAt L i).2.length + 1) cap)).heap[kb]? = w.heap[kb]? := fun kb z hz => by
    rw [heap_set_ne (fun e => by
      subst e
      obtain ⟨z', hz'⟩ := own_type h.own (g := kb) rfl
      have := type_ne hz hz'
      exact absurd this (by decide))]
    refine hgr.block kb (block_lt hz) (fun e => ?_)
    obtain ⟨z', hz'⟩ := own_type (h.ent i hi).2 e.symm
    have := type_ne hz hz'
    exact absurd this (by decide)
  refine ⟨by simp [joinG, h.len], ?_, fun j hj => ?_, fun j k b hj hk hjk hb hb' => ?_⟩
  · rw [joinG_len, ← flat2_set2]
    exact ownsRow_set hown' _
  · rw [joinG_len] at hj
    unfold joinG
    rw [pAt_set hxl, gAt_set hi]
    by_cases e : j = i
    · subst e
      rw [if_pos rfl, if_pos rfl]
      obtain ⟨⟨kb, kc, z, e1, e2, e3⟩, e4⟩ := h.ent j hi
      refine ⟨⟨kb, kc, z, e1, (hk1 kb z e2).trans e2, fun i u hu => ?_⟩, ?_⟩
      · rw [World.cell?_of_block (w := w) (a := ⟨kb, _, none⟩) (hk1 kb z e2)]; exact e3 i u hu
      · have := ownsRow_setCell_other hown (a := ⟨gb, j * 2 + 1, none⟩) (by simpa [Value.ownBlock] using hggb) (.slice (some ⟨g, 0, none⟩) ((gAt L j).2.length + 1) cap)
        simpa using this
    · rw [if_neg e, if_neg e]
      refine (h.ent j hj).blk hk1 (fun b hb => ?_)
      rw [heap_set_ne (hne j b hj hb)]
      exact hgr.block b ((h.ent j hj).2.lt b hb).2 (fun e' => h.sep j i b hj hi e hb e'.symm)
  · rw [joinG_len] at hj hk
    rw [pAt_set hxl] at hb hb'
    by_cases e : j = i
    · subst e
      rw [if_pos rfl] at hb
      rw [if_neg (fun e => hjk e.symm)] at hb'
      obtain rfl : g = b := by simpa [Value.ownBlock] using hb
      rcases hat with e | e
      · exact h.sep j k g hj hk hjk e hb'
      · have := ((h.ent k hk).2.lt g hb').2; omega
    · rw [if_neg e] at hb
      by_cases e2 : k = i
      · subst e2
        rw [if_pos rfl] at hb'
        obtain rfl : g = b := by simpa [Value.ownBlock] using hb'
        rcases hat with e' | e'
        · exact h.sep j k g hj hk hjk hb e'
        · have := ((h.ent j hj).2.lt g hb).2; omega
      · rw [if_neg e2] at hb'
        exact h.sep j k b hj hk hjk hb hb'
/-- Two neighbours change places. -/
theorem Gs.swap (h : Gs B kf gv xs L w) {j gb gc : Nat} (hj : j < L.length) (hj0 : 0 < j) (hgv : gv = .slice (some ⟨gb, 0, none⟩) L.length gc) :
    Gs B kf gv ((xs.set j (pAt xs (j - 1))).set (j - 1) (pAt xs j)) (swapG L j) ((w.setCells gb (j * 2) [(pAt xs (j - 1)).1, (pAt xs (j - 1)).2]).setCells gb ((j - 1) * 2) [(pAt xs j).1, (pAt xs j).2]) := by
  subst hgv
  obtain ⟨W, hW⟩ : ∃ W, (w.setCells gb (j * 2) [(pAt xs (j - 1)).1, (pAt xs (j - 1)).2]).setCells gb ((j - 1) * 2) [(pAt xs j).1, (pAt xs j).2] = W := ⟨_, rfl⟩
  have hxl : j < xs.length := by rw [h.len]; exact hj
  have hother : ∀ k, k ≠ gb → W.heap[k]? = w.heap[k]? := fun k hk => by
    rw [← hW]
    simp only [World.setCells]
    rw [heap_set_ne hk, heap_set_ne hk, heap_set_ne hk, heap_set_ne hk]
  have hne : ∀ j b, j < L.length → (pAt xs j).2.ownBlock = some b → b ≠ gb := fun j b hj hb e => h.rne hj hb (by simp [Value.ownBlock, e])
  have hk1 : ∀ (kb : Nat) (z : Array Value), w.heap[kb]? = some (Obj.cells z 100 (0, 0)) → W.heap[kb]? = w.heap[kb]? := fun kb z hz => hother kb (fun e => by
    subst e
    obtain ⟨z', hz'⟩ := own_type h.own (g := kb) rfl
    have := type_ne hz hz'
    exact absurd this (by decide))
  have hent : ∀ i, i < L.length → GE B kf (pAt xs i) (gAt L i) W := fun i hi => (h.ent i hi).blk hk1 (fun b hb => hother b (hne i b hi hb))
  have hp : ∀ i, pAt ((xs.set j (pAt xs (j - 1))).set (j - 1) (pAt xs j)) i = if i = j - 1 then pAt xs j else if i = j then pAt xs (j - 1) else pAt xs i := fun i => by
    rw [pAt_set (by simp; omega), pAt_set hxl]
  have hg : ∀ i, gAt (swapG L j) i = if i = j - 1 then gAt L j else if i = j then gAt L (j - 1) else gAt L i := fun i => by
    unfold swapG
    rw [gAt_set (by simp; omega), gAt_set hj]
  rw [hW]
  refine ⟨by simp [swapG, h.len], ?_, fun i hi => ?_, fun i k b hi hk hik hb hb' => ?_⟩
  · rw [swapG_len, ← hW]
    simp only [World.setCells]
    have h1 := ownsRow_set (ownsRow_set (ownsRow_set (ownsRow_set h.own (k := j * 2) (pAt xs (j - 1)).1) (k := j * 2 + 1) (pAt xs (j - 1)).2) (k := (j - 1) * 2) (pAt xs j).1) (k := (j - 1) * 2 + 1) (pAt xs j).2
    rw [flat2_set1, flat2_set2, flat2_set1, flat2_set2] at h1
    have e1 : ∀ (ys : List (Value × Value)) (k : Nat) (a b : Value), k < ys.length → (ys.set k (a, (pAt ys k).2)).set k ((pAt (ys.set k (a, (pAt ys k).2)) k).1, b) = ys.set k (a, b) := fun ys k a b hk => by
      rw [pAt_set hk, if_pos rfl, List.set_set]
    rw [e1 xs j _ _ hxl, e1 (xs.set j _) (j - 1) _ _ (by simp; omega)] at h1
    exact h1
  · rw [swapG_len] at hi
    rw [hp, hg]
    by_cases e : i = j - 1
    · rw [if_pos e, if_pos e]; exact hent j hj
    · rw [if_neg e, if_neg e]
      by_cases e2 : i = j
      · rw [if_pos e2, if_pos e2]; exact hent (j - 1) (by omega)
      · rw [if_neg e2, if_neg e2]; exact hent i hi
  · rw [swapG_len] at hi hk
    rw [hp] at hb hb'
    have key : ∀ a c, a < L.length → c < L.length → a ≠ c → (pAt xs a).2.ownBlock = some b → (pAt xs c).2.ownBlock = some b → False := fun a c ha hc hac h1 h2 => h.sep a c b ha hc hac h1 h2
    by_cases e : i = j - 1
    · rw [if_pos e] at hb
      rw [if_neg (fun e' => hik (e.trans e'.symm))] at hb'
      by_cases e2 : k = j
      · rw [if_pos e2] at hb'; exact key j (j - 1) hj (by omega) (by omega) hb hb'
      · rw [if_neg e2] at hb'; exact key j k hj hk (fun e => e2 e.symm) hb hb'
    · rw [if_neg e] at hb
      by_cases e2 : i = j
      · rw [if_pos e2] at hb
        by_cases e3 : k = j - 1
        · rw [if_pos e3] at hb'; exact key (j - 1) j (by omega) hj (by omega) hb hb'
        · rw [if_neg e3, if_neg (fun e' => hik (e2.trans e'.symm))] at hb'; exact key (j - 1) k (by omega) hk (fun e => e3 e.symm) hb hb'
      · rw [if_neg e2] at hb
        by_cases e3 : k = j - 1
        · rw [if_pos e3] at hb'; exact key i j hi hj e2 hb hb'
        · rw [if_neg e3] at hb'
          by_cases e4 : k = j
          · rw [if_pos e4] at hb'; exact key i (j - 1) hi (by omega) e hb hb'
          · rw [if_neg e4] at hb'; exact key i k hi hk hik hb hb'
end
end Go.Proofs.YgdaegDoor
