import Derived.Test.YgdaegDoorFields
import Derived.Test.YgdaegDoorCheck
namespace Go.Proofs.YgdaegDoor
open Go.RowKit
set_option linter.unusedSimpArgs false
set_option linter.unusedVariables false

/-- A statement with all that hangs on it. -/
structure SAt (w : World) (ok : Nat → Prop) (ps : Nat) (s : St) (tl : List (List Nat)) (es : List E) (ns : List ByteArray) : Prop where
  at_ : StAt w ps s
  own : ok ps
  tup : Arr2 w ok s.tuples 1 (tl.map i16L)
  arena : Arr w ok s.arena 12 (es.map E.list)
  cols : Arr w ok s.cols 3 (ns.map colL)
  items : s.items = nilS
  groups : s.groups = nilS
section
variable {w w' : World} {ok : Nat → Prop} {ps : Nat} {s : St} {tl : List (List Nat)} {es : List E} {ns : List ByteArray}
theorem SAt.ext (h : SAt w ok ps s tl es ns) (hb : Below w.heap.size w w') : SAt w' ok ps s tl es ns :=
  ⟨h.at_.ext hb, h.own, h.tup.ext hb, h.arena.ext hb, h.cols.ext hb, h.items, h.groups⟩
theorem SAt.keep {X : Nat → Prop} (h : SAt w ok ps s tl es ns) (hb : Keep X w w') (hX : ∀ b, ok b → X b) : SAt w' ok ps s tl es ns :=
  ⟨h.at_.keep hb (hX _ h.own), h.own, h.tup.keep hb hX, h.arena.keep hb hX, h.cols.keep hb hX, h.items, h.groups⟩
end

/-- What the check asks of the arena. -/
structure Arena (es : List E) (rts : List Nat) (ks : Nat → List Nat) : Prop where
  len : es.length ≤ 128
  nr : ∀ i, i < es.length → ∀ b off W, NodeAt W b off (es.getD i (leafE 0 V0)) → Calls Yaed.prog 120 #[.pointer (some ⟨b, off, none⟩)] W fun r w' => r = .returned (.bool true) ∧ Below W.heap.size W w'
  kd : ∀ i, i < es.length → ∀ b o cap W, NodeAt W b (o + i * 12) (es.getD i (leafE 0 V0)) → Calls Yaed.prog 121 #[.slice (some ⟨b, o, none⟩) es.length cap, .int .i64 i] W fun r w' =>
      ∃ kv, r = .returned (.tuple #[kv, .bool true]) ∧ Arr w' (fun b => W.heap.size ≤ b) kv 1 (i16L (ks i)) ∧ Below W.heap.size W w'
  c : ∀ i, i < es.length → (es.getD i (leafE 0 V0)).c = -1 ∧ ((es.getD i (leafE 0 V0)).op != 6) = true
  kk : ∀ i, i < es.length → ks i = [] ∨ (∃ x, ks i = [x] ∧ x + 1 = i ∧ ks x = []) ∨ (∃ x y, ks i = [x, y] ∧ x + 1 = y ∧ y + 1 = i ∧ ks x = [] ∧ ks y = [])
  tl : tile ks es.length 0 rts = some es.length
  rl : rts.length ≤ 128
  noagg : ∀ i, i < es.length → ((es.getD i (leafE 0 V0)).op == 26) = false
  rlt : ∀ r ∈ rts, r < es.length

theorem tile_lt {ks : Nat → List Nat} {n : Nat} : ∀ (rts : List Nat) (next : Nat) {m : Nat}, tile ks n next rts = some m → ∀ r ∈ rts, r < n
  | [], _, _, _ => fun r h => by cases h
  | x :: rs, next, m, h => fun r hr => by
    unfold tile at h
    split at h
    · rename_i hc
      rcases List.mem_cons.1 hr with rfl | hr
      · exact hc.1
      · exact tile_lt rs _ h r hr
    · cases h

theorem good_t : Good tS := goodName_t
theorem good_i : Good iS := goodName_i

/-- What the check asks of the rest. -/
structure Fine (s : St) (tl : List (List Nat)) (ns : List ByteArray) : Prop where
  kind : s.kind = 0 ∨ s.kind = 1 ∨ s.kind = 2 ∨ s.kind = 3 ∨ s.kind = 4 ∨ s.kind = 5 ∨ s.kind = 7
  table : (usesT s.kind = true ∧ s.table = tS) ∨ (usesT s.kind = false ∧ s.table = eS)
  index : (usesI s.kind = true ∧ s.index = iS) ∨ (usesI s.kind = false ∧ s.index = eS)
  wher : (0 ≤ s.wher ∧ s.kind = 7 ∧ tl = []) ∨ (s.wher = -1 ∧ s.kind = 5) ∨ (s.wher = -1 ∧ (s.kind == 5) = false ∧ (s.kind == 6) = false ∧ (s.kind == 7) = false)
  star : s.star = (s.kind == 5)
  cols : (s.kind = 0 ∧ 0 < ns.length ∧ ns.length ≤ 4) ∨ (s.kind = 1 ∧ 0 < ns.length ∧ ns.length ≤ 2) ∨ ((s.kind == 0) = false ∧ (s.kind == 1) = false ∧ s.cols = nilS)
  good : ∀ n ∈ ns, Good n
  tup : ((s.kind == 4) = true ∧ 0 < tl.length) ∨ ((s.kind == 4) = false ∧ tl.length = 0)
  tne : ∀ t ∈ tl, t ≠ []
  tlen : tl.length ≤ 32
  tflat : tl.flatten.length ≤ 128

theorem goodT {k : Int} {n g : ByteArray} {u : Bool} (hg : Good g) (h : (u = true ∧ n = g) ∨ (u = false ∧ n = eS)) (w : World) :
    Calls Yaed.prog 117 #[.string n] w fun r w' => r = .returned (.bool u) ∧ Below w.heap.size w w' := by
  rcases h with ⟨rfl, rfl⟩ | ⟨rfl, rfl⟩
  · exact hg w
  · exact (goodName_empty w).mono fun r w' h => ⟨h.1, by rw [h.2]; exact Below.refl _ _⟩

theorem check_any {w : World} {ok : Nat → Prop} {ps : Nat} {s : St} {tl : List (List Nat)} {es : List E} {ns : List ByteArray} {ks : Nat → List Nat} (h : SAt w ok ps s tl es ns) (hf : Fine s tl ns) (ha : Arena es (tl.flatten ++ whL s) ks) :
    Calls Yaed.prog 35 #[.pointer (some ⟨ps, 0, none⟩)] w fun r w' => r = .returned (.bool true) ∧ Below w.heap.size w w' := by
  obtain ⟨aa, ac, hav, _⟩ := h.arena
  refine check_of s ps w h.at_ (by rcases hf.kind with e | e | e | e | e | e | e <;> omega) (es.map E.list).length aa ac hav (by simpa using ha.len) (fun rv w' => ∃ ok', Arr w' ok' rv 1 (i16L (tl.flatten ++ whL s))) (fun _ _ => True) ?_ ?_ ?_ ?_
  · intro w' hb
    have h' := h.ext hb
    refine checkFields_any s ps w' h'.at_ hf.kind (goodT (k := s.kind) good_t hf.table) (goodT (k := s.kind) good_i hf.index) ?_ ?_ ?_ 0 0 none none 0 0 h.items h.groups ?_
    · rcases hf.wher with ⟨h1, h2, _⟩ | ⟨h1, h2⟩ | ⟨h1, h5, h6, h7⟩
      · left; rw [h2]; exact ⟨rfl, by omega⟩
      · left; rw [h2]; exact ⟨rfl, by omega⟩
      · right; exact ⟨by simp [usesW, h5, h6, h7], h1⟩
    · intro w2 hb2
      have h2 := h'.ext hb2
      rcases hf.cols with ⟨hk, hl, hl'⟩ | ⟨hk, hl, hl'⟩ | ⟨hk0, hk1, hc⟩
      · exact checkCols_create s ps w2 ok ns h2.at_ h2.cols hk hl hl' hf.good
      · exact checkCols_index s ps w2 ok ns h2.at_ h2.cols hk hl hl' hf.good
      · exact checkCols_other s ps w2 h2.at_ hc hk0 hk1
    · intro w2 hb2
      have h2 := h'.ext hb2
      refine checkTuplesSets_any s ps tl w2 ok h2.at_ h2.tup hf.tup ?_ hf.tlen hf.tne
      rcases hf.kind with e | e | e | e | e | e | e <;> rw [e] <;> rfl
    · by_cases h5 : (s.kind == 5) = true
      · exact .inl ⟨h5, .inl ⟨rfl, rfl, by rw [hf.star, h5]⟩⟩
      · exact .inr ⟨by simpa using h5, rfl, rfl, by rw [hf.star]; simpa using h5⟩
  · intro w' hb
    have h' := h.ext hb
    refine (roots_plain s ps tl w' ok h'.at_ h.groups h.items h'.tup hf.wher hf.tflat hf.tlen).mono ?_
    rintro r w2 ⟨rv, av, rfl, h1, _, h3⟩
    exact ⟨rv, av, rfl, fun w3 hb3 => ⟨_, h1.ext hb3⟩, fun _ _ => trivial, h3⟩
  · rintro w' rv hb ⟨ok', hrv⟩
    exact checkArena_any es ha.len ks (tl.flatten ++ whL s) w' ok ok' s.arena rv (h.ext hb).arena hrv ha.nr ha.kd ha.c ha.kk ha.tl ha.rl
  · rintro w' rv av hb ⟨ok', hrv⟩ _
    refine (aggregatesRight_none es ha.len w' ok ok' s.arena rv av (h.ext hb).arena ha.noagg (tl.flatten ++ whL s) ha.rlt ha.rl hrv).mono ?_
    rintro r w2 ⟨rfl, rfl⟩
    exact ⟨rfl, Below.refl _ _⟩

/-- The empty arena. -/
theorem Arena.nil : Arena [] [] (fun _ => []) := by
  refine ⟨by simp, ?_, ?_, ?_, ?_, rfl, by simp, ?_, ?_⟩ <;> intro i hi <;> simp at hi

theorem tile_range (n : Nat) : ∀ k j, j + k = n → tile (fun _ => []) n j (List.range' j k) = some n := by
  intro k
  induction k with
  | zero => intro j h; simp [tile]; omega
  | succ k ih =>
    intro j h
    rw [List.range'_succ]
    unfold tile
    rw [if_pos ⟨by omega, rfl⟩]
    exact ih (j + 1) (by omega)

theorem paramsE_get (rs : List (List V)) (i : Nat) (hi : i < (paramsE rs).length) : ∃ v, (paramsE rs).getD i (leafE 0 V0) = leafE 4 (norm v) ∧ v ∈ rs.flatten := by
  have hi' : i < rs.flatten.length := by unfold paramsE at hi; rwa [List.length_map] at hi
  refine ⟨rs.flatten[i], ?_, List.getElem_mem hi'⟩
  rw [List.getD_eq_getElem?_getD]
  unfold paramsE
  rw [List.getElem?_map, List.getElem?_eq_getElem hi']
  rfl

/-- The arena of an INSERT. -/
theorem Arena.params (rs : List (List V)) (hok : ∀ v ∈ rs.flatten, v.ok) (hl : rs.flatten.length ≤ 128) : Arena (paramsE rs) (List.range' 0 rs.flatten.length) (fun _ => []) := by
  have hlen : (paramsE rs).length = rs.flatten.length := by unfold paramsE; rw [List.length_map]
  refine ⟨by omega, ?_, ?_, ?_, fun i hi => .inl rfl, ?_, by rw [List.length_range']; exact hl, ?_, ?_⟩
  · intro i hi b off W hN
    obtain ⟨v, hv, hm⟩ := paramsE_get rs i hi
    rw [hv] at hN
    exact nodeRight_param _ (norm_ok (hok v hm)) (norm_norm v) b off W hN
  · intro i hi b o cap W hN
    obtain ⟨v, hv, hm⟩ := paramsE_get rs i hi
    rw [hv] at hN
    refine (kids_leaf _ (.inl rfl) rfl rfl b o i _ cap hi W hN).mono ?_
    rintro r w' ⟨rfl, hb⟩
    exact ⟨_, rfl, Arr.nil _ _ _, hb⟩
  · intro i hi
    obtain ⟨v, hv, hm⟩ := paramsE_get rs i hi
    rw [hv]
    exact ⟨rfl, rfl⟩
  · rw [hlen]; exact tile_range _ _ 0 (Nat.zero_add _)
  · intro i hi
    obtain ⟨v, hv, hm⟩ := paramsE_get rs i hi
    rw [hv]
    rfl
  · intro r hr
    rw [hlen]
    have := (List.mem_range'_1.1 hr).2
    omega

/-- The arena of 'WHERE rowid = 1'. -/
def delE : List E := [colE rowidS, leafE 0 (intV 1), opE 11 0 1]
def delK : Nat → List Nat := fun i => if i = 2 then [0, 1] else []
theorem Arena.del : Arena delE [2] delK := by
  have hcase : ∀ i, i < delE.length → i = 0 ∨ i = 1 ∨ i = 2 := by intro i hi; simp [delE] at hi; omega
  refine ⟨by decide, ?_, ?_, ?_, ?_, by decide, by decide, ?_, by decide⟩
  · intro i hi b off W hN
    rcases hcase i hi with rfl | rfl | rfl
    · exact nodeRight_col rowidS goodName_rowid b off W hN
    · exact nodeRight_int 1 (by omega) b off W hN
    · exact nodeRight_op 0 1 b off W hN
  · intro i hi b o cap W hN
    rcases hcase i hi with rfl | rfl | rfl
    · refine (kids_leaf (colE rowidS) (.inr (.inr rfl)) rfl rfl b o 0 _ cap hi W hN).mono ?_
      rintro r w' ⟨rfl, hb⟩
      exact ⟨_, rfl, Arr.nil _ _ _, hb⟩
    · refine (kids_leaf (leafE 0 (intV 1)) (.inr (.inl rfl)) rfl rfl b o 1 _ cap hi W hN).mono ?_
      rintro r w' ⟨rfl, hb⟩
      exact ⟨_, rfl, Arr.nil _ _ _, hb⟩
    · refine (kids_eq 0 1 b o 2 _ cap hi (by omega) (by omega) (by omega) (by omega) (by omega) (by omega) W hN).mono ?_
      rintro r w' ⟨g, rfl, hg, hge, hb⟩
      refine ⟨_, rfl, ⟨_, 2, rfl, by simp [delK, i16L], fun j hj => ⟨g, 0, rfl, hge, block_lt hg, fun f hf => ?_⟩⟩, hb⟩
      have hf0 : f = 0 := by omega
      subst hf0
      rw [cell_of_row w' g _ _ 35 _ hg]
      have hj2 : j = 0 ∨ j = 1 := by simp [delK, i16L] at hj; omega
      rcases hj2 with rfl | rfl <;> rfl
  · intro i hi
    rcases hcase i hi with rfl | rfl | rfl <;> exact ⟨rfl, rfl⟩
  · intro i hi
    rcases hcase i hi with rfl | rfl | rfl
    · exact .inl rfl
    · exact .inl rfl
    · exact .inr (.inr ⟨0, 1, rfl, rfl, rfl, rfl, rfl⟩)
  · intro i hi
    rcases hcase i hi with rfl | rfl | rfl <;> rfl
end Go.Proofs.YgdaegDoor
