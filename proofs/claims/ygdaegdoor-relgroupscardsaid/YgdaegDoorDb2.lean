import Derived.Test.YgdaegDoorDb
import Derived.Test.YgdaegDoorFine
namespace Go.Proofs.YgdaegDoor
open Go.RowKit
set_option linter.unusedSimpArgs false
set_option linter.unusedVariables false

section
variable {P : Program} {w : World} {o : Oper} {a : Act} {Q : Exit → Act → World → Prop} {s x : Operand} {t : TypeId} {e : TypeId} {size bytes : Nat} {nb : Nat} {cs : Array Value} {t' : TypeId} {fr : Nat × Nat} {ta : Option Addr}
/-- append of one element onto a slice of no room. -/
theorem run_app0 (ty : TypeId) (ht : P.underlying t = some (.slice e)) (hinfo : infoTest P e size bytes = true)
    (hnb : w.heap[nb]? = some (.cells cs t' fr)) (hcs : cs.size = size) (h1 : ∀ u ∈ cs.toList, u.oneCell' = true) (hby : bytes ≤ 1000) :
    ∃ cap w', (Builtin.append_ #[t, t] ty #[.slice ta 0 0, .slice (some ⟨nb, 0, none⟩) 1 1]).run P w = .ok (.slice (some ⟨w.heap.size, 0, none⟩) 1 cap) w' ∧
      w'.ownsRow w.heap.size e size (.slice (some ⟨w.heap.size, 0, none⟩) 1 cap) 1 cs.toList ∧ Below w.heap.size w w' ∧ w'.heap.size = w.heap.size + 1 := by
  obtain ⟨ii, z, hi, hz, hsi, hbi, hzs⟩ := info_of hinfo
  have hnew := World.news_of_block hnb
  have hs : Src P ii.size t (.slice (some ⟨nb, 0, none⟩) 1 1) 1 cs.toList w := Src.ofSlice w ht ⟨nb, 0, none⟩ 1 1 cs.toList (by simp [hcs, hsi]) hnew h1
  have hold : (Builtin.firstCells ii.size 0 (.slice ta 0 0)).run P w.drew = .ok ([] : List Value).toArray w.drew := by
    cases ta <;> simp [Builtin.firstCells, loadCells, loadCellsFrom]
  have hr := run_append_grow_src (P := P) w t t ty e ii z ht hi hz ta 0 0 [] hold (.slice (some ⟨nb, 0, none⟩) 1 1) 1 cs.toList hs (by omega) (by omega) (by unfold Builtin.nextslicecap; simp; omega)
  simp only [Nat.zero_add, List.nil_append] at hr
  refine ⟨_, _, hr, ⟨by simp [hcs], .inr ⟨_, _, _, rfl, Nat.le_refl _, heap_alloc_new w.drew _, grownCap_ge w 1 0 e, grownCap_le_maxLen w 1 0 e (by unfold maxLen; omega), ?_, ?_⟩⟩, (Below.refl _ _).drew.alloc (by simp) _, by simp⟩
  · have := grownCap_ge w 1 0 e
    simp only [Array.size_append, List.size_toArray, Array.length_toList, size_zeroCells, hzs, hcs]
    rw [Nat.sub_mul, Nat.one_mul]
    have h2 : 1 * size ≤ grownCap w 1 0 e * size := Nat.mul_le_mul_right _ this
    omega
  · rw [Array.toList_append, Nat.one_mul]
    rw [List.take_append_of_le_length (by simp [hcs])]
    exact List.take_of_length_le (by simp [hcs])
theorem wp_app0 {K : Act → World → Prop} (ho : o.op = .call { callee := .builtin .append, args := #[s, x], argTypes := #[t, t] })
    (ht : P.underlying t = some (.slice e)) (hinfo : infoTest P e size bytes = true) (hs : a.eval s = .slice ta 0 0) (hx : a.eval x = .slice (some ⟨nb, 0, none⟩) 1 1)
    (hnb : w.heap[nb]? = some (.cells cs t' fr)) (hcs : cs.size = size) (h1 : ∀ u ∈ cs.toList, u.oneCell' = true) (hby : bytes ≤ 1000)
    (h : ∀ cap w', w'.ownsRow w.heap.size e size (.slice (some ⟨w.heap.size, 0, none⟩) 1 cap) 1 cs.toList → Below w.heap.size w w' → w'.heap.size = w.heap.size + 1 → K (a.put o.dst (.slice (some ⟨w.heap.size, 0, none⟩) 1 cap)) w') : o.wp P a w K Q := by
  obtain ⟨cap, w', hr', h2, h3, h4⟩ := run_app0 (P := P) (ta := ta) o.type ht hinfo hnb hcs h1 hby
  unfold Oper.wp execOp
  simp only [ho, resolve, invoke, builtin, Sem.run_bind, Sem.run_pure, Result.andThen_ok, List.map_toArray, List.map_cons, List.map_nil, hs, hx, hr']
  exact h cap w' h2 h3 h4
end

/-- What lies at a column. -/
theorem colAt {w : World} {ok : Nat → Prop} {ca : Option Addr} {cc : Nat} {ns : List ByteArray} (h : Arr w ok (.slice ca ns.length cc) 3 (ns.map colL)) (k : Nat) (hk : k < ns.length) :
    ∃ b o, ca = some ⟨b, o, none⟩ ∧ ok b ∧ b < w.heap.size ∧ w.cell? ⟨b, o + k * 3, none⟩ = some (.string ns[k]) ∧ w.cell? ⟨b, o + k * 3 + 1, none⟩ = some (.int .u8 0) ∧ w.cell? ⟨b, o + k * 3 + 2, none⟩ = some (.bool false) := by
  obtain ⟨a', c', he, _, hh⟩ := h
  obtain ⟨rfl, rfl⟩ : ca = a' ∧ cc = c' := by simpa using he
  obtain ⟨b, o, rfl, hb, hlt, hc⟩ := hh k (by simpa using hk)
  have h0 := hc 0 (by omega)
  have h1 := hc 1 (by omega)
  have h2 := hc 2 (by omega)
  refine ⟨b, o, rfl, hb, hlt, ?_, ?_, ?_⟩
  · simpa [List.getD_eq_getElem?_getD, hk, colL] using h0
  · simpa [List.getD_eq_getElem?_getD, hk, colL] using h1
  · simpa [List.getD_eq_getElem?_getD, hk, colL] using h2
theorem Arr.shape {w : World} {ok : Nat → Prop} {v : Value} {k : Nat} {rows : List (List Value)} (h : Arr w ok v k rows) : ∃ a c, v = .slice a rows.length c ∧ rows.length ≤ c := by
  obtain ⟨a, c, h1, h2, _⟩ := h; exact ⟨a, c, h1, h2⟩

set_option maxHeartbeats 2000000 in
theorem colIndex_any (ns : List ByteArray) (n : ByteArray) (i : Nat) (hi : i < ns.length) (h4 : ns.length ≤ 4) (hin : ns.getD i eS = n) (hne : ∀ j, j < i → ((ns.getD j eS).toList == n.toList) = false) (cv : Value) (w : World) (ok : Nat → Prop) (hc : Arr w ok cv 3 (ns.map colL)) :
    Calls Yaed.prog 128 #[cv, .string n] w fun r w' => r = .returned (.int .i64 i) ∧ Below w.heap.size w w' := by
  obtain ⟨ca, cc, rfl, hcc⟩ := hc.shape
  rw [List.length_map] at hc hcc ⊢
  have HC : Hid (Arr w ok (.slice ca ns.length cc) 3 (ns.map colL)) := hc
  have HNE : Hid _ := hne
  have HIN : Hid (ns.getD i eS = n) := hin
  clear hc hne hin
  go_enter Yaed.func128, Yaed.ntmps128
  go_wp2_with fail
  go_loopw [9] (fun c wr => ∃ k : Nat, k ≤ i ∧ c = .int .i64 k ∧ Hid (Below w.heap.size w wr)) (fun c _ => ns.length - (intOf c).toNat)
  case atStart => exact ⟨0, Nat.zero_le _, rfl, Below.refl _ _⟩
  case round =>
    obtain ⟨k, hk, rfl, HB⟩ := hrel
    obtain ⟨b, o, rfl, _, hb, g0, g1, g2⟩ := colAt HC.out k (by omega)
    obtain ⟨nm, hnm⟩ : ∃ nm, ns[k] = nm := ⟨_, rfl⟩
    rw [hnm] at g0
    have HNM : Hid (ns.getD k eS = nm) := by rw [← hnm]; exact getD_of_lt _ _ _ (by omega)
    rw [← HB.out.cell (p := ⟨b, _, none⟩) hb] at g0 g1 g2
    have hkn : k < ns.length := by omega
    by_cases hki : k = i
    · subst hki
      have hnn : nm = n := by rw [← HNM.out, ← HIN.out]
      subst hnn
      go_wp2_with fail
      go_ret
      exact ⟨rfl, HB.out.alloc HB.out.size _⟩
    · have hnn := HNE.out k (by omega)
      rw [HNM.out] at hnn
      clear hnm
      go_wp2_with fail
      go_roundw
      case rel => exact ⟨k + 1, by omega, by go_num, HB.out.alloc HB.out.size _⟩
      case measure => simp [intOf]; omega

set_option maxHeartbeats 2000000 in
theorem indexCount_one (bd bt tc : Nat) (t : T) (il : Nat) (hi : t.idx.n = il) (hil : il ≤ 100) (w : World) (h : DB1 w bd bt tc t) : Calls Yaed.prog 202 #[.pointer (some ⟨bd, 0, none⟩)] w fun r w' => r = .returned (.int .i64 il) ∧ Below w.heap.size w w' := by
  obtain ⟨h0, h1, h2, h3⟩ := h.dfacts
  obtain ⟨t0, t1, t2, t3, t4, t5, _⟩ := h.tfacts
  rw [hi] at t2
  have hw := IntWalk.i64_in (il : Int) (by omega)
  clear h
  go_enter Yaed.func202, Yaed.ntmps202
  go_wp2_with fail
  refine wp_loop_rounds 2 ?_
  rw [rounds_succ]
  go_wp2_with fail
  rw [rounds_succ]
  go_wp2_with fail
  go_ret
  exact ⟨rfl, by go_grown⟩
end Go.Proofs.YgdaegDoor
