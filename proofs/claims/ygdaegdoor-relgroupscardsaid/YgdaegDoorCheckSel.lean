import Derived.Test.YgdaegDoorAggR
import Derived.Test.YgdaegDoorSelV
import Derived.Test.YgdaegDoorFine
namespace Go.Proofs.YgdaegDoor
open Go.RowKit
set_option linter.unusedSimpArgs false
set_option linter.unusedVariables false
/-- The arena of the grouping SELECT: group by column g, aggregates of column c. -/
def selE (g c : Nat) : List E := [colE (cname g), aggE countS (-1), colE (cname c), aggE countS 2, colE (cname c), aggE sumS 4, colE (cname c), aggE avgS 6, colE (cname c), aggE minS 8, colE (cname c), aggE maxS 10, colE (cname g)]
def selF (g c : Nat) (i : Nat) : E := (selE g c).getD i (leafE 0 V0)
def selK : Nat → List Nat := fun i => if i = 3 then [2] else if i = 5 then [4] else if i = 7 then [6] else if i = 9 then [8] else if i = 11 then [10] else []
def selI : List Nat := [0, 1, 3, 5, 7, 9, 11]
def selR : List Nat := [0, 1, 3, 5, 7, 9, 11, 12]
def selO : List Bool := [true, true, true, true, true, true, true, false]
theorem cases13 {i : Nat} (h : i < 13) : i = 0 ∨ i = 1 ∨ i = 2 ∨ i = 3 ∨ i = 4 ∨ i = 5 ∨ i = 6 ∨ i = 7 ∨ i = 8 ∨ i = 9 ∨ i = 10 ∨ i = 11 ∨ i = 12 := by omega
/-- The SELECT with all that hangs on it. -/
structure SelAt (w : World) (ok : Nat → Prop) (ps : Nat) (s : St) (g c : Nat) : Prop where
  at_ : StAt w ps s
  kind : s.kind = 5
  table : s.table = tS
  index : s.index = eS
  cols : s.cols = nilS
  tuples : s.tuples = nilS
  wher : s.wher = -1
  star : s.star = false
  arena : Arr w ok s.arena 12 ((selE g c).map E.list)
  items : Arr w ok s.items 1 (i16L selI)
  groups : Arr w ok s.groups 1 (i16L [12])
theorem SelAt.ext {w w' : World} {ok : Nat → Prop} {ps : Nat} {s : St} {g c : Nat} (h : SelAt w ok ps s g c) (hb : Below w.heap.size w w') : SelAt w' ok ps s g c :=
  ⟨h.at_.ext hb, h.kind, h.table, h.index, h.cols, h.tuples, h.wher, h.star, h.arena.ext hb, h.items.ext hb, h.groups.ext hb⟩
theorem SelAt.nodes {w : World} {ok : Nat → Prop} {ps : Nat} {s : St} {g c : Nat} (h : SelAt w ok ps s g c) : ∃ b o cap, s.arena = .slice (some ⟨b, o, none⟩) 13 cap ∧ b < w.heap.size ∧ ∀ i, i < 13 → NodeAt w b (o + i * 12) (selF g c i) := by
  obtain ⟨a, cap, h1, h2, h3⟩ := h.arena
  obtain ⟨b, o, rfl, hb, hlt, _⟩ := h3 0 (by simp [selE])
  refine ⟨b, o, cap, h1, hlt, fun i hi => ⟨hlt, fun f hf => ?_⟩⟩
  obtain ⟨b', o', he, _, _, h4⟩ := h3 i (by simp [selE]; omega)
  obtain ⟨rfl, rfl⟩ : b = b' ∧ o = o' := by simpa using he
  rw [h4 f hf]
  have : ((selE g c).map E.list).getD i [] = (selF g c i).list := by
    unfold selF
    rw [List.getD_eq_getElem?_getD, List.getElem?_map, List.getD_eq_getElem?_getD, List.getElem?_eq_getElem (by simpa [selE] using hi)]
    rfl
  rw [this]
theorem sel_agg (g c : Nat) : ∀ i, i < 13 → AggNode (selF g c) i := by
  intro i hi
  rcases cases13 hi with rfl | rfl | rfl | rfl | rfl | rfl | rfl | rfl | rfl | rfl | rfl | rfl | rfl
  · exact .inl ⟨_, rfl⟩
  · exact .inr (.inl rfl)
  · exact .inl ⟨_, rfl⟩
  · exact .inr (.inr ⟨_, 2, rfl, rfl, _, rfl⟩)
  · exact .inl ⟨_, rfl⟩
  · exact .inr (.inr ⟨_, 4, rfl, rfl, _, rfl⟩)
  · exact .inl ⟨_, rfl⟩
  · exact .inr (.inr ⟨_, 6, rfl, rfl, _, rfl⟩)
  · exact .inl ⟨_, rfl⟩
  · exact .inr (.inr ⟨_, 8, rfl, rfl, _, rfl⟩)
  · exact .inl ⟨_, rfl⟩
  · exact .inr (.inr ⟨_, 10, rfl, rfl, _, rfl⟩)
  · exact .inl ⟨_, rfl⟩
theorem sel_node (n g c : Nat) (hg : g < n) (hc : c < n) : ∀ i, i < 13 → SelNode n (selF g c i) := by
  intro i hi
  rcases cases13 hi with rfl | rfl | rfl | rfl | rfl | rfl | rfl | rfl | rfl | rfl | rfl | rfl | rfl
  · exact .inl ⟨_, hg, rfl⟩
  · exact .inr ⟨_, _, rfl⟩
  · exact .inl ⟨_, hc, rfl⟩
  · exact .inr ⟨_, _, rfl⟩
  · exact .inl ⟨_, hc, rfl⟩
  · exact .inr ⟨_, _, rfl⟩
  · exact .inl ⟨_, hc, rfl⟩
  · exact .inr ⟨_, _, rfl⟩
  · exact .inl ⟨_, hc, rfl⟩
  · exact .inr ⟨_, _, rfl⟩
  · exact .inl ⟨_, hc, rfl⟩
  · exact .inr ⟨_, _, rfl⟩
  · exact .inl ⟨_, hg, rfl⟩
theorem sel_nr (g c : Nat) (hg : g < 4) (hc : c < 4) : ∀ i, i < (selE g c).length → ∀ b off W, NodeAt W b off ((selE g c).getD i (leafE 0 V0)) → Calls Yaed.prog 120 #[.pointer (some ⟨b, off, none⟩)] W fun r w' => r = .returned (.bool true) ∧ Below W.heap.size W w' := by
  intro i hi b off W hN
  have hag : ∀ (nm : ByteArray) (a : Int), AggName nm → NodeAt W b off (aggE nm a) → Calls Yaed.prog 120 #[.pointer (some ⟨b, off, none⟩)] W fun r w' => r = .returned (.bool true) ∧ Below W.heap.size W w' := fun nm a hn h => nodeRight_agg nm a (isAgg_any nm hn) (good_agg nm hn) b off W h
  have hi' : i < 13 := hi
  rcases cases13 hi' with rfl | rfl | rfl | rfl | rfl | rfl | rfl | rfl | rfl | rfl | rfl | rfl | rfl
  · exact nodeRight_col _ (good_cname g hg) b off W hN
  · exact hag _ _ (.inl rfl) hN
  · exact nodeRight_col _ (good_cname c hc) b off W hN
  · exact hag _ _ (.inl rfl) hN
  · exact nodeRight_col _ (good_cname c hc) b off W hN
  · exact hag _ _ (.inr (.inl rfl)) hN
  · exact nodeRight_col _ (good_cname c hc) b off W hN
  · exact hag _ _ (.inr (.inr (.inl rfl))) hN
  · exact nodeRight_col _ (good_cname c hc) b off W hN
  · exact hag _ _ (.inr (.inr (.inr (.inl rfl)))) hN
  · exact nodeRight_col _ (good_cname c hc) b off W hN
  · exact hag _ _ (.inr (.inr (.inr (.inr rfl)))) hN
  · exact nodeRight_col _ (good_cname g hg) b off W hN
theorem sel_kd (g c : Nat) : ∀ i, i < (selE g c).length → ∀ b o cap W, NodeAt W b (o + i * 12) ((selE g c).getD i (leafE 0 V0)) → Calls Yaed.prog 121 #[.slice (some ⟨b, o, none⟩) (selE g c).length cap, .int .i64 i] W fun r w' =>
      ∃ kv, r = .returned (.tuple #[kv, .bool true]) ∧ Arr w' (fun b => W.heap.size ≤ b) kv 1 (i16L (selK i)) ∧ Below W.heap.size W w' := by
  intro i hi b o cap W hN
  have hcol : ∀ nm, selK i = [] → NodeAt W b (o + i * 12) (colE nm) → Calls Yaed.prog 121 #[.slice (some ⟨b, o, none⟩) (selE g c).length cap, .int .i64 i] W fun r w' =>
      ∃ kv, r = .returned (.tuple #[kv, .bool true]) ∧ Arr w' (fun b => W.heap.size ≤ b) kv 1 (i16L (selK i)) ∧ Below W.heap.size W w' := fun nm hk h => by
    refine (kids_leaf (colE nm) (.inr (.inr rfl)) rfl rfl b o i _ cap hi W h).mono ?_
    rintro r w' ⟨rfl, hb⟩
    rw [hk]
    exact ⟨_, rfl, Arr.nil _ _ _, hb⟩
  have hag1 : ∀ nm (x : Nat), selK i = [x] → x < i → x < 30000 → NodeAt W b (o + i * 12) (aggE nm x) → Calls Yaed.prog 121 #[.slice (some ⟨b, o, none⟩) (selE g c).length cap, .int .i64 i] W fun r w' =>
      ∃ kv, r = .returned (.tuple #[kv, .bool true]) ∧ Arr w' (fun b => W.heap.size ≤ b) kv 1 (i16L (selK i)) ∧ Below W.heap.size W w' := fun nm x hk hx hx3 h => by
    refine (kids_agg1 nm x b o i _ cap hi hx hx3 W h).mono ?_
    rintro r w' ⟨g, rfl, hg, hge, hb⟩
    rw [hk]
    refine ⟨_, rfl, ⟨_, 1, rfl, by simp [i16L], fun j hj => ⟨g, 0, rfl, hge, block_lt hg, fun f hf => ?_⟩⟩, hb⟩
    have hf0 : f = 0 := by omega
    subst hf0
    have hj0 : j = 0 := by simp [i16L] at hj; omega
    subst hj0
    rw [cell_of_row w' g _ _ 35 _ hg]
    rfl
  have hi' : i < 13 := hi
  rcases cases13 hi' with rfl | rfl | rfl | rfl | rfl | rfl | rfl | rfl | rfl | rfl | rfl | rfl | rfl
  · exact hcol _ rfl hN
  · refine (kids_agg0 countS b o 1 _ cap hi W hN).mono ?_
    rintro r w' ⟨rfl, hb⟩
    exact ⟨_, rfl, Arr.nil _ _ _, hb⟩
  · exact hcol _ rfl hN
  · exact hag1 _ 2 rfl (by omega) (by omega) hN
  · exact hcol _ rfl hN
  · exact hag1 _ 4 rfl (by omega) (by omega) hN
  · exact hcol _ rfl hN
  · exact hag1 _ 6 rfl (by omega) (by omega) hN
  · exact hcol _ rfl hN
  · exact hag1 _ 8 rfl (by omega) (by omega) hN
  · exact hcol _ rfl hN
  · exact hag1 _ 10 rfl (by omega) (by omega) hN
  · exact hcol _ rfl hN
theorem sel_c (g c : Nat) : ∀ i, i < (selE g c).length → ((selE g c).getD i (leafE 0 V0)).c = -1 ∧ (((selE g c).getD i (leafE 0 V0)).op != 6) = true := by
  intro i hi
  have hi' : i < 13 := hi
  rcases cases13 hi' with rfl | rfl | rfl | rfl | rfl | rfl | rfl | rfl | rfl | rfl | rfl | rfl | rfl <;> exact ⟨rfl, rfl⟩
theorem sel_kk (g c : Nat) : ∀ i, i < (selE g c).length → selK i = [] ∨ (∃ x, selK i = [x] ∧ x + 1 = i ∧ selK x = []) ∨ (∃ x y, selK i = [x, y] ∧ x + 1 = y ∧ y + 1 = i ∧ selK x = [] ∧ selK y = []) := by
  intro i hi
  have hi' : i < 13 := hi
  rcases cases13 hi' with rfl | rfl | rfl | rfl | rfl | rfl | rfl | rfl | rfl | rfl | rfl | rfl | rfl
  · exact .inl rfl
  · exact .inl rfl
  · exact .inl rfl
  · exact .inr (.inl ⟨2, rfl, rfl, rfl⟩)
  · exact .inl rfl
  · exact .inr (.inl ⟨4, rfl, rfl, rfl⟩)
  · exact .inl rfl
  · exact .inr (.inl ⟨6, rfl, rfl, rfl⟩)
  · exact .inl rfl
  · exact .inr (.inl ⟨8, rfl, rfl, rfl⟩)
  · exact .inl rfl
  · exact .inr (.inl ⟨10, rfl, rfl, rfl⟩)
  · exact .inl rfl
theorem sel_rt : ∀ j, j < selR.length → selR.getD j 0 < 13 ∧ fstR selR j ≤ selR.getD j 0 := by decide
theorem sel_ok (g c : Nat) : ∀ j, j < selR.length → ∀ i, fstR selR j ≤ i → i ≤ selR.getD j 0 → (selF g c i).op = 26 → selO.getD j false = true := by
  intro j hj i h1 h2 h3
  have hj' : j < 8 := hj
  rcases (by omega : j < 7 ∨ j = 7) with h | rfl
  · exact (by decide : ∀ j, j < 7 → selO.getD j false = true) j h
  · have : i = 12 := by
      have a : 12 ≤ i := h1
      have b : i ≤ 12 := h2
      omega
    subst this
    have h9 : (5 : Int) = 26 := h3
    exact absurd h9 (by decide)
/-- Check of the SELECT. -/
theorem check_sel {w : World} {ok : Nat → Prop} {ps : Nat} {s : St} {g c : Nat} (hg : g < 4) (hc : c < 4) (h : SelAt w ok ps s g c) :
    Calls Yaed.prog 35 #[.pointer (some ⟨ps, 0, none⟩)] w fun r w' => r = .returned (.bool true) ∧ Below w.heap.size w w' := by
  obtain ⟨b, o, ac, hav, hb, hN⟩ := h.nodes
  obtain ⟨ia, ic, hiv, _⟩ := i16_get h.items
  obtain ⟨ga, gc, hgv, _⟩ := i16_get h.groups
  refine check_of s ps w h.at_ (by rw [h.kind]; decide) 13 _ ac hav (by omega) (fun rv w' => ∃ ok', Arr w' ok' rv 1 (i16L selR)) (fun av w' => ∃ ok', Arr w' ok' av 1 (boolL selO)) ?_ ?_ ?_ ?_
  · intro w' hb'
    have h' := h.ext hb'
    refine checkFields_any s ps w' h'.at_ (by rw [h.kind]; decide) (goodT (k := s.kind) good_t (.inl ⟨by rw [h.kind]; rfl, h.table⟩)) (goodT (k := s.kind) good_i (.inr ⟨by rw [h.kind]; rfl, h.index⟩)) (.inl ⟨by rw [h.kind]; rfl, by rw [h.wher]; decide⟩) ?_ ?_ selI.length 1 ia ga ic gc hiv hgv (.inl ⟨by rw [h.kind]; rfl, .inr ⟨rfl, rfl, h.star⟩⟩)
    · intro w2 hb2
      exact checkCols_other s ps w2 (h'.at_.ext hb2) h.cols (by rw [h.kind]; rfl) (by rw [h.kind]; rfl)
    · intro w2 hb2
      exact checkTuplesSets_any s ps [] w2 ok (h'.at_.ext hb2) (by rw [h.tuples]; exact Arr2.nil _ _ _) (.inr ⟨by rw [h.kind]; rfl, rfl⟩) (by rw [h.kind]; rfl) (by simp) (by simp)
  · intro w' hb'
    have h' := h.ext hb'
    refine (roots_sel s ps selI [12] w' ok h'.at_ h.kind h.wher h.tuples h'.items h'.groups (by decide) (by decide)).mono ?_
    rintro r w2 ⟨rv, av, rfl, h1, h2, h3⟩
    exact ⟨rv, av, rfl, fun w3 hb3 => ⟨_, h1.ext hb3⟩, fun w3 hb3 => ⟨_, h2.ext hb3⟩, h3⟩
  · rintro w' rv hb' ⟨ok', hrv⟩
    exact checkArena_any (selE g c) (by simp [selE]) selK selR w' ok ok' s.arena rv (h.ext hb').arena hrv (sel_nr g c hg hc) (sel_kd g c) (sel_c g c) (sel_kk g c) (show tile selK 13 0 selR = some 13 by decide) (by decide)
  · rintro w' rv av hb' ⟨ok', hrv⟩ ⟨ok2, hav2⟩
    rw [hav]
    exact aggsRight_sel b o 13 ac (by omega) (selF g c) (sel_agg g c) (show cntA (selF g c) 13 ≤ 8 from (show (6 : Nat) ≤ 8 by omega)) selR selO rfl (by decide) sel_rt (sel_ok g c) w' ok' ok2 rv av hrv hav2 (fun i hi => (hN i hi).ext hb')
end Go.Proofs.YgdaegDoor
