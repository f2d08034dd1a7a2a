import Derived.Test.YgdaegDoorGs
import Derived.Test.YgdaegDoorMatches2
import Derived.Test.YgdaegDoorSo
namespace Go.Proofs.YgdaegDoor
open Go.RowKit
set_option linter.unusedSimpArgs false
set_option linter.unusedVariables false
theorem info119 : infoTest Yaed.prog 119 1 24 = true := by kernel_rfl
theorem under120 : Yaed.prog.underlying 120 = some (.slice 119) := by kernel_rfl
/-- The law's own groups: the first rows, and the members. -/
structure Ls (B : Nat) (fv mv : Value) (xs : List Value) (fl : List Nat) (ml : List (List Nat)) (w : World) : Prop where
  len : xs.length = ml.length
  fown : w.ownsRow B 3 1 fv fl.length (iVs fl)
  mown : w.ownsRow B 119 1 mv ml.length xs
  row : ∀ i, i < ml.length → w.ownsRow B 3 1 (xs.getD i undef) (ml.getD i []).length (iVs (ml.getD i []))
  sep : ∀ i j g, i < ml.length → j < ml.length → i ≠ j → (xs.getD i undef).ownBlock = some g → (xs.getD j undef).ownBlock ≠ some g
  fsep : ∀ i g, i < ml.length → (xs.getD i undef).ownBlock = some g → fv.ownBlock ≠ some g
section
variable {B : Nat} {fv mv : Value} {xs : List Value} {fl : List Nat} {ml : List (List Nat)} {w w' : World}
theorem Ls.nil (B : Nat) (w : World) : Ls B (.slice none 0 0) (.slice none 0 0) [] [] [] w :=
  ⟨rfl, World.ownsRow_nil _ _ _ _, World.ownsRow_nil _ _ _ _, fun i hi => absurd hi (Nat.not_lt_zero _), fun i j g hi => absurd hi (Nat.not_lt_zero _), fun i g hi => absurd hi (Nat.not_lt_zero _)⟩
theorem Ls.ext (h : Ls B fv mv xs fl ml w) (hb : Below w.heap.size w w') : Ls B fv mv xs fl ml w' :=
  ⟨h.len, ownsRow_ext h.fown hb, ownsRow_ext h.mown hb, fun i hi => ownsRow_ext (h.row i hi) hb, h.sep, h.fsep⟩
theorem Ls.fne (h : Ls B fv mv xs fl ml w) {g : Nat} (hf : fv.ownBlock = some g) : mv.ownBlock ≠ some g := fun e => by
  obtain ⟨z, hz⟩ := own_type h.fown hf
  obtain ⟨z', hz'⟩ := own_type h.mown e
  exact absurd (type_ne hz hz') (by decide)
theorem Ls.rne (h : Ls B fv mv xs fl ml w) {i g : Nat} (hi : i < ml.length) (hf : (xs.getD i undef).ownBlock = some g) : mv.ownBlock ≠ some g := fun e => by
  obtain ⟨z, hz⟩ := own_type (h.row i hi) hf
  obtain ⟨z', hz'⟩ := own_type h.mown e
  exact absurd (type_ne hz hz') (by decide)
theorem Ls.pushF (h : Ls B fv mv xs fl ml w) {g cap r : Nat} (hown : w'.ownsRow B 3 1 (.slice (some ⟨g, 0, none⟩) (fl.length + 1) cap) (fl.length + 1) (iVs fl ++ [.int .i64 (r : Int)])) (hgr : w.grownBy w' fv.ownBlock) (hat : fv.ownBlock = some g ∨ w.heap.size ≤ g) :
    Ls B (.slice (some ⟨g, 0, none⟩) (fl.length + 1) cap) mv xs (fl ++ [r]) ml w' := by
  have hk := keep_grown hgr
  refine ⟨h.len, by simpa [iVs] using hown, ownsRow_blk h.mown (fun b hb => hk.block b ⟨(h.mown.lt b hb).2, fun e => h.fne e.symm hb⟩), fun i hi => ownsRow_blk (h.row i hi) (fun b hb => hk.block b ⟨((h.row i hi).lt b hb).2, fun e => h.fsep i b hi hb e.symm⟩), h.sep, fun i b hi hb e => ?_⟩
  obtain rfl : g = b := by simpa [Value.ownBlock] using e
  rcases hat with e1 | e1
  · exact h.fsep i g hi hb e1
  · have := ((h.row i hi).lt g hb).2; omega
theorem getD_appL_l {l : List (List Nat)} {x : List Nat} {i : Nat} (h : i < l.length) : (l ++ [x]).getD i [] = l.getD i [] := by
  rw [List.getD_eq_getElem?_getD, List.getD_eq_getElem?_getD, List.getElem?_append_left h]
theorem getD_appL_r {l : List (List Nat)} {x : List Nat} {i : Nat} (h : i = l.length) : (l ++ [x]).getD i [] = x := by
  subst h; simp [List.getD_eq_getElem?_getD]
theorem getD_setV {l : List Value} {x : Value} {i k : Nat} (h : k < l.length) : (l.set k x).getD i undef = if i = k then x else l.getD i undef := by
  rw [List.getD_eq_getElem?_getD, List.getD_eq_getElem?_getD, List.getElem?_set]
  by_cases e : i = k
  · subst e; simp [h]
  · rw [if_neg (fun h => e h.symm), if_neg e]
theorem getD_setL {l : List (List Nat)} {x : List Nat} {i k : Nat} (h : k < l.length) : (l.set k x).getD i [] = if i = k then x else l.getD i [] := by
  rw [List.getD_eq_getElem?_getD, List.getD_eq_getElem?_getD, List.getElem?_set]
  by_cases e : i = k
  · subst e; simp [h]
  · rw [if_neg (fun h => e h.symm), if_neg e]
theorem Ls.pushM (h : Ls B fv mv xs fl ml w) {g cap : Nat} (hown : w'.ownsRow B 119 1 (.slice (some ⟨g, 0, none⟩) (ml.length + 1) cap) (ml.length + 1) (xs ++ [.slice none 0 0])) (hgr : w.grownBy w' mv.ownBlock) :
    Ls B fv (.slice (some ⟨g, 0, none⟩) (ml.length + 1) cap) (xs ++ [.slice none 0 0]) fl (ml ++ [[]]) w' := by
  have hk := keep_grown hgr
  refine ⟨by simp [h.len], ownsRow_blk h.fown (fun b hb => hk.block b ⟨(h.fown.lt b hb).2, fun e => h.fne hb e.symm⟩), by simpa using hown, fun i hi => ?_, fun i j b hi hj hij hb hb' => ?_, fun i b hi hb e => ?_⟩
  · by_cases e : i < ml.length
    · rw [getD_app_l (by rw [h.len]; exact e), getD_appL_l e]
      exact ownsRow_blk (h.row i e) (fun b hb => hk.block b ⟨((h.row i e).lt b hb).2, fun e' => h.rne e hb e'.symm⟩)
    · have e' : i = ml.length := by simp at hi; omega
      rw [getD_app_r (by rw [h.len]; exact e'), getD_appL_r e']
      exact World.ownsRow_nil _ _ _ _
  · simp only [List.length_append, List.length_singleton] at hi hj
    by_cases e : i < ml.length
    · by_cases e2 : j < ml.length
      · rw [getD_app_l (by rw [h.len]; exact e)] at hb
        rw [getD_app_l (by rw [h.len]; exact e2)] at hb'
        exact h.sep i j b e e2 hij hb hb'
      · rw [getD_app_r (by rw [h.len]; omega)] at hb'
        simp [Value.ownBlock] at hb'
    · rw [getD_app_r (by rw [h.len]; omega)] at hb
      simp [Value.ownBlock] at hb
  · simp only [List.length_append, List.length_singleton] at hi
    by_cases e2 : i < ml.length
    · rw [getD_app_l (by rw [h.len]; exact e2)] at hb
      exact h.fsep i b e2 hb e
    · rw [getD_app_r (by rw [h.len]; omega)] at hb
      simp [Value.ownBlock] at hb
/-- A row joins the members at i. -/
theorem Ls.app (h : Ls B fv mv xs fl ml w) {i g cap r mb mc : Nat} (hi : i < ml.length) (hmv : mv = .slice (some ⟨mb, 0, none⟩) ml.length mc)
    (hown : w'.ownsRow B 3 1 (.slice (some ⟨g, 0, none⟩) ((ml.getD i []).length + 1) cap) ((ml.getD i []).length + 1) (iVs (ml.getD i []) ++ [.int .i64 (r : Int)])) (hgr : w.grownBy w' (xs.getD i undef).ownBlock) (hat : (xs.getD i undef).ownBlock = some g ∨ w.heap.size ≤ g) :
    Ls B fv mv (xs.set i (.slice (some ⟨g, 0, none⟩) ((ml.getD i []).length + 1) cap)) fl (ml.set i (ml.getD i [] ++ [r])) (w'.setCell ⟨mb, i, none⟩ (.slice (some ⟨g, 0, none⟩) ((ml.getD i []).length + 1) cap)) := by
  subst hmv
  have hxl : i < xs.length := by rw [h.len]; exact hi
  have hmb := (h.mown.lt mb rfl).2
  have hk := keep_grown hgr
  have hne : ∀ j b, j < ml.length → (xs.getD j undef).ownBlock = some b → b ≠ mb := fun j b hj hb e => h.rne hj hb (by simp [Value.ownBlock, e])
  have hfne : ∀ b, fv.ownBlock = some b → b ≠ mb := fun b hb e => h.fne hb (by simp [Value.ownBlock, e])
  have hgmb : g ≠ mb := by
    rcases hat with e | e
    · exact hne i g hi e
    · omega
  have hmown' : w'.ownsRow B 119 1 (.slice (some ⟨mb, 0, none⟩) ml.length mc) ml.length xs := ownsRow_blk h.mown (fun b hb => hk.block b ⟨(h.mown.lt b hb).2, fun e => h.rne hi e.symm hb⟩)
  refine ⟨by simp [h.len], ?_, ?_, fun j hj => ?_, fun j k b hj hk' hjk hb hb' => ?_, fun j b hj hb e => ?_⟩
  · exact ownsRow_setCell_other (ownsRow_blk h.fown (fun b hb => hk.block b ⟨(h.fown.lt b hb).2, fun e => h.fsep i b hi e.symm hb⟩)) (a := ⟨mb, i, none⟩) (fun e => hfne mb e rfl) _
  · rw [List.length_set]; exact ownsRow_set hmown' _
  · rw [List.length_set] at hj
    rw [getD_setV hxl, getD_setL hi]
    by_cases e : j = i
    · rw [if_pos e, if_pos e]
      have := ownsRow_setCell_other hown (a := ⟨mb, i, none⟩) (by simpa [Value.ownBlock] using hgmb) (.slice (some ⟨g, 0, none⟩) ((ml.getD i []).length + 1) cap)
      simpa [iVs] using this
    · rw [if_neg e, if_neg e]
      exact ownsRow_setCell_other (ownsRow_blk (h.row j hj) (fun b hb => hk.block b ⟨((h.row j hj).lt b hb).2, fun e' => h.sep j i b hj hi e hb e'.symm⟩)) (a := ⟨mb, i, none⟩) (fun e' => hne j mb hj e' rfl) _
  · rw [List.length_set] at hj hk'
    rw [getD_setV hxl] at hb hb'
    by_cases e : j = i
    · rw [if_pos e] at hb
      rw [if_neg (fun e' => hjk (e.trans e'.symm))] at hb'
      obtain rfl : g = b := by simpa [Value.ownBlock] using hb
      rcases hat with e1 | e1
      · exact h.sep i k g hi hk' (fun e' => hjk (e.trans e')) e1 hb'
      · have := ((h.row k hk').lt g hb').2; omega
    · rw [if_neg e] at hb
      by_cases e2 : k = i
      · rw [if_pos e2] at hb'
        obtain rfl : g = b := by simpa [Value.ownBlock] using hb'
        rcases hat with e1 | e1
        · exact h.sep j i g hj hi e hb e1
        · have := ((h.row j hj).lt g hb).2; omega
      · rw [if_neg e2] at hb'
        exact h.sep j k b hj hk' hjk hb hb'
  · rw [List.length_set] at hj
    rw [getD_setV hxl] at hb
    by_cases e2 : j = i
    · rw [if_pos e2] at hb
      obtain rfl : g = b := by simpa [Value.ownBlock] using hb
      rcases hat with e1 | e1
      · exact h.fsep i g hi e1 e
      · have := (h.fown.lt g e).2; omega
    · rw [if_neg e2] at hb
      exact h.fsep j b hj hb e
def swapN (l : List Nat) (j : Nat) : List Nat := (l.set j (l.getD (j - 1) 0)).set (j - 1) (l.getD j 0)
def swapL (l : List (List Nat)) (j : Nat) : List (List Nat) := (l.set j (l.getD (j - 1) [])).set (j - 1) (l.getD j [])
theorem iVs_set (l : List Nat) (k v : Nat) : (iVs l).set k (.int .i64 (v : Int)) = iVs (l.set k v) := by simp [iVs, List.map_set]
theorem Ls.swapF (h : Ls B fv mv xs fl ml w) {j fb fc : Nat} (hfv : fv = .slice (some ⟨fb, 0, none⟩) fl.length fc) :
    Ls B fv mv xs (swapN fl j) ml ((w.setCell ⟨fb, j, none⟩ (.int .i64 ((fl.getD (j - 1) 0 : Nat) : Int))).setCell ⟨fb, j - 1, none⟩ (.int .i64 ((fl.getD j 0 : Nat) : Int))) := by
  subst hfv
  have hm : ∀ b, mv.ownBlock = some b → b ≠ fb := fun b hb e => h.fne (g := fb) rfl (by rw [← e]; exact hb)
  have hr : ∀ i b, i < ml.length → (xs.getD i undef).ownBlock = some b → b ≠ fb := fun i b hi hb e => h.fsep i b hi hb (by simp [Value.ownBlock, e])
  refine ⟨h.len, ?_, ?_, fun i hi => ?_, h.sep, h.fsep⟩
  · have h1 := ownsRow_set (ownsRow_set h.fown (k := j) (.int .i64 ((fl.getD (j - 1) 0 : Nat) : Int))) (k := j - 1) (.int .i64 ((fl.getD j 0 : Nat) : Int))
    rw [iVs_set, iVs_set] at h1
    unfold swapN
    rw [List.length_set, List.length_set]
    exact h1
  · exact ownsRow_setCell_other (ownsRow_setCell_other h.mown (a := ⟨fb, j, none⟩) (fun e => hm fb e rfl) _) (a := ⟨fb, j - 1, none⟩) (fun e => hm fb e rfl) _
  · exact ownsRow_setCell_other (ownsRow_setCell_other (h.row i hi) (a := ⟨fb, j, none⟩) (fun e => hr i fb hi e rfl) _) (a := ⟨fb, j - 1, none⟩) (fun e => hr i fb hi e rfl) _
theorem Ls.swapM (h : Ls B fv mv xs fl ml w) {j mb mc : Nat} (hj : j < ml.length) (hj0 : 0 < j) (hmv : mv = .slice (some ⟨mb, 0, none⟩) ml.length mc) :
    Ls B fv mv ((xs.set j (xs.getD (j - 1) undef)).set (j - 1) (xs.getD j undef)) fl (swapL ml j) ((w.setCell ⟨mb, j, none⟩ (xs.getD (j - 1) undef)).setCell ⟨mb, j - 1, none⟩ (xs.getD j undef)) := by
  subst hmv
  have hxl : j < xs.length := by rw [h.len]; exact hj
  have hf : ∀ b, fv.ownBlock = some b → b ≠ mb := fun b hb e => h.fne hb (by simp [Value.ownBlock, e])
  have hr : ∀ i b, i < ml.length → (xs.getD i undef).ownBlock = some b → b ≠ mb := fun i b hi hb e => h.rne hi hb (by simp [Value.ownBlock, e])
  have hrow : ∀ i, i < ml.length → ((w.setCell ⟨mb, j, none⟩ (xs.getD (j - 1) undef)).setCell ⟨mb, j - 1, none⟩ (xs.getD j undef)).ownsRow B 3 1 (xs.getD i undef) (ml.getD i []).length (iVs (ml.getD i [])) := fun i hi =>
    ownsRow_setCell_other (ownsRow_setCell_other (h.row i hi) (a := ⟨mb, j, none⟩) (fun e => hr i mb hi e rfl) _) (a := ⟨mb, j - 1, none⟩) (fun e => hr i mb hi e rfl) _
  have hp : ∀ i, ((xs.set j (xs.getD (j - 1) undef)).set (j - 1) (xs.getD j undef)).getD i undef = if i = j - 1 then xs.getD j undef else if i = j then xs.getD (j - 1) undef else xs.getD i undef := fun i => by
    rw [getD_setV (by simp; omega), getD_setV hxl]
  have hg : ∀ i, (swapL ml j).getD i [] = if i = j - 1 then ml.getD j [] else if i = j then ml.getD (j - 1) [] else ml.getD i [] := fun i => by
    unfold swapL
    rw [getD_setL (by simp; omega), getD_setL hj]
  have hsl : (swapL ml j).length = ml.length := by simp [swapL]
  -- the place that place i comes from
  obtain ⟨σ, hσ⟩ : ∃ σ : Nat → Nat, ∀ i, σ i = if i = j - 1 then j else if i = j then j - 1 else i := ⟨_, fun _ => rfl⟩
  have hp' : ∀ i, ((xs.set j (xs.getD (j - 1) undef)).set (j - 1) (xs.getD j undef)).getD i undef = xs.getD (σ i) undef := fun i => by
    rw [hp, hσ]
    by_cases e : i = j - 1
    · simp [e]
    · rw [if_neg e, if_neg e]
      by_cases e2 : i = j
      · simp [e2]
      · rw [if_neg e2, if_neg e2]
  have hg' : ∀ i, (swapL ml j).getD i [] = ml.getD (σ i) [] := fun i => by
    rw [hg, hσ]
    by_cases e : i = j - 1
    · simp [e]
    · rw [if_neg e, if_neg e]
      by_cases e2 : i = j
      · simp [e2]
      · rw [if_neg e2, if_neg e2]
  have hσl : ∀ i, i < ml.length → σ i < ml.length := fun i hi => by
    rw [hσ]
    split
    · exact hj
    · split
      · omega
      · exact hi
  have hσi : ∀ i k, i ≠ k → σ i ≠ σ k := fun i k hik => by
    rw [hσ, hσ]
    split <;> split <;> (try split) <;> (try split) <;> omega
  refine ⟨by rw [hsl]; simp [h.len], ?_, ?_, fun i hi => ?_, fun i k b hi hk hik hb hb' => ?_, fun i b hi hb e => ?_⟩
  · exact ownsRow_setCell_other (ownsRow_setCell_other h.fown (a := ⟨mb, j, none⟩) (fun e => hf mb e rfl) _) (a := ⟨mb, j - 1, none⟩) (fun e => hf mb e rfl) _
  · rw [hsl]
    exact ownsRow_set (ownsRow_set h.mown (k := j) _) (k := j - 1) _
  · rw [hsl] at hi
    rw [hp', hg']
    exact hrow _ (hσl i hi)
  · rw [hsl] at hi hk
    rw [hp'] at hb hb'
    exact h.sep _ _ b (hσl i hi) (hσl k hk) (hσi i k hik) hb hb'
  · rw [hsl] at hi
    rw [hp'] at hb
    exact h.fsep _ b (hσl i hi) hb e
theorem Ls.shapes (h : Ls B fv mv xs fl ml w) : (∃ a c, fv = .slice a fl.length c) ∧ ∃ a c, mv = .slice a ml.length c := by
  refine ⟨?_, ?_⟩
  · rcases h.fown.2 with ⟨rfl, h1⟩ | ⟨g, cap, cur, rfl, _⟩
    · exact ⟨none, 0, by rw [h1]⟩
    · exact ⟨_, cap, rfl⟩
  · rcases h.mown.2 with ⟨rfl, h1⟩ | ⟨g, cap, cur, rfl, _⟩
    · exact ⟨none, 0, by rw [h1]⟩
    · exact ⟨_, cap, rfl⟩
theorem Ls.fat (h : Ls B fv mv xs fl ml w) (h0 : 0 < fl.length) : ∃ fb fc, fv = .slice (some ⟨fb, 0, none⟩) fl.length fc ∧ B ≤ fb ∧ fb < w.heap.size ∧ w.there fb 0 fl.length ∧ ∀ i, i < fl.length → w.cell? ⟨fb, i, none⟩ = some (.int .i64 ((fl.getD i 0 : Nat) : Int)) := by
  rcases h.fown.2 with ⟨_, h1⟩ | ⟨g, cap, cur, rfl, h1, h2, h3, h4, h5, h6⟩
  · omega
  · refine ⟨g, cap, rfl, h1, block_lt h2, there_block h2 0 _ (by omega), fun i hi => ?_⟩
    have hc := h.fown.cells (g := g) rfl i (.int .i64 ((fl.getD i 0 : Nat) : Int)) (by simp [iVs, List.getD_eq_getElem?_getD, hi])
    rw [Addr.add_mid, Nat.zero_add] at hc
    exact hc
theorem Ls.mat (h : Ls B fv mv xs fl ml w) (h0 : 0 < ml.length) : ∃ mb mc, mv = .slice (some ⟨mb, 0, none⟩) ml.length mc ∧ B ≤ mb ∧ mb < w.heap.size ∧ w.there mb 0 ml.length ∧ ∀ i, i < ml.length → w.cell? ⟨mb, i, none⟩ = some (xs.getD i undef) := by
  rcases h.mown.2 with ⟨_, h1⟩ | ⟨g, cap, cur, rfl, h1, h2, h3, h4, h5, h6⟩
  · omega
  · refine ⟨g, cap, rfl, h1, block_lt h2, there_block h2 0 _ (by omega), fun i hi => ?_⟩
    have hc := h.mown.cells (g := g) rfl i (xs.getD i undef) (by rw [List.getD_eq_getElem?_getD, List.getElem?_eq_getElem (by rw [h.len]; exact hi)]; rfl)
    rw [Addr.add_mid, Nat.zero_add] at hc
    exact hc
end
def fsts (L : List Gr) : List Nat := L.map (·.1)
def mems (L : List Gr) : List (List Nat) := L.map (·.2)
theorem fsts_get (L : List Gr) (i : Nat) : (fsts L).getD i 0 = (gAt L i).1 := by
  unfold fsts gAt
  rw [List.getD_eq_getElem?_getD, List.getD_eq_getElem?_getD, List.getElem?_map]
  cases L[i]? <;> rfl
theorem mems_get (L : List Gr) (i : Nat) : (mems L).getD i [] = (gAt L i).2 := by
  unfold mems gAt
  rw [List.getD_eq_getElem?_getD, List.getD_eq_getElem?_getD, List.getElem?_map]
  cases L[i]? <;> rfl
theorem fsts_len (L : List Gr) : (fsts L).length = L.length := by simp [fsts]
theorem mems_len (L : List Gr) : (mems L).length = L.length := by simp [mems]
theorem fsts_join (L : List Gr) (a r : Nat) : fsts (joinG L a r) = fsts L := by
  unfold joinG fsts
  rw [List.map_set]
  refine List.ext_getElem? (fun i => ?_)
  rw [List.getElem?_set]
  by_cases e : a = i
  · subst e
    by_cases h : a < L.length
    · simp [h, gAt_eq h]
    · simp [h]
  · rw [if_neg e]
theorem mems_join (L : List Gr) (a r : Nat) : mems (joinG L a r) = (mems L).set a ((mems L).getD a [] ++ [r]) := by
  rw [mems_get]
  unfold joinG mems
  rw [List.map_set]
theorem fsts_swap (L : List Gr) (j : Nat) : fsts (swapG L j) = swapN (fsts L) j := by
  unfold swapN
  rw [fsts_get, fsts_get]
  unfold swapG fsts
  rw [List.map_set, List.map_set]
theorem mems_swap (L : List Gr) (j : Nat) : mems (swapG L j) = swapL (mems L) j := by
  unfold swapL
  rw [mems_get, mems_get]
  unfold swapG mems
  rw [List.map_set, List.map_set]
theorem fsts_app (L : List Gr) (p : Gr) : fsts (L ++ [p]) = fsts L ++ [p.1] := by simp [fsts]
theorem mems_app (L : List Gr) (p : Gr) : mems (L ++ [p]) = mems L ++ [p.2] := by simp [mems]
end Go.Proofs.YgdaegDoor
