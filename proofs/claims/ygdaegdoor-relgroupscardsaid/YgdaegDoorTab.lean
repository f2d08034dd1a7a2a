import Derived.Test.YgdaegDoorIns2
set_option linter.unusedSimpArgs false
set_option linter.unusedVariables false
namespace Go.Proofs.YgdaegDoor
open Go.RowKit

theorem Arr2.opened {w : World} {ok : Nat → Prop} {rv : Value} {k : Nat} {rss : List (List (List Value))} (h : Arr2 w ok rv k rss) :
    ∃ (ra : Option Addr) (rcap : Nat) (rvs : List Value), rv = .slice ra rss.length rcap ∧ rss.length ≤ rcap ∧ rvs.length = rss.length ∧
      (∀ j, j < rss.length → ∃ b o, ra = some ⟨b, o, none⟩ ∧ ok b ∧ b < w.heap.size ∧ w.cell? ⟨b, o + j, none⟩ = some (rvs.getD j undef)) ∧
      (∀ j, j < rss.length → Arr w ok (rvs.getD j undef) k (rss.getD j [])) := by
  obtain ⟨rvs, hrl, hra, hri⟩ := h
  obtain ⟨ra, rcap, rfl, hrc, hra⟩ := hra
  simp only [List.length_map] at *
  refine ⟨ra, rcap, rvs, by rw [hrl], by omega, hrl, fun j hj => ?_, hri⟩
  obtain ⟨b, o, h1, h1', h2, h3⟩ := hra j (by omega)
  refine ⟨b, o, h1, h1', h2, ?_⟩
  have := h3 0 (by omega)
  have hj' : j < rvs.length := by omega
  simpa [List.getD_eq_getElem?_getD, hj'] using this

theorem flat_single (l : List Value) : (l.map fun x => [x]).flatten = l := by
  induction l with
  | nil => rfl
  | cons x l ih => simp [ih]

def cutR (n : Nat) (rs : List (List V)) : List (List V) := (rs.filter fun r => r.length == n).take 32
def cutP (n : Nat) (l : List (Value × List V)) : List (Value × List V) := (l.filter fun p => p.2.length == n).take 32

theorem cutP_snoc (n : Nat) (l : List (Value × List V)) (p : Value × List V) :
    cutP n (l ++ [p]) = if p.2.length = n ∧ (cutP n l).length < 32 then cutP n l ++ [p] else cutP n l := by
  unfold cutP
  rw [List.filter_append]
  by_cases h : p.2.length = n
  · by_cases h2 : ((l.filter fun p => p.2.length == n).take 32).length < 32
    · rw [if_pos ⟨h, h2⟩]
      have h3 : (l.filter fun p => p.2.length == n).length < 32 := by
        rw [List.length_take] at h2; omega
      have e0 : List.filter (fun p : Value × List V => p.2.length == n) [p] = [p] := by simp [h]
      rw [e0, List.take_of_length_le (l := List.filter (fun p => p.2.length == n) l) (by omega), List.take_of_length_le (by simp; omega)]
    · rw [if_neg (by simp only [not_and]; exact fun _ => h2)]
      have h3 : 32 ≤ (l.filter fun p => p.2.length == n).length := by
        rw [List.length_take] at h2; omega
      rw [List.take_append_of_le_length h3]
  · rw [if_neg (by simp [h])]
    simp [h]
theorem cutP_le (n : Nat) (l : List (Value × List V)) : (cutP n l).length ≤ 32 := by unfold cutP; rw [List.length_take]; omega
theorem cutP_snd (n : Nat) : ∀ (l : List (Value × List V)), (cutP n l).map (·.2) = cutR n (l.map (·.2)) := by
  intro l
  unfold cutP cutR
  rw [List.map_take, List.filter_map]
  rfl
theorem cutP_mem {n : Nat} {l : List (Value × List V)} {p : Value × List V} (h : p ∈ cutP n l) : p ∈ l ∧ p.2.length = n := by
  have := List.mem_of_mem_take h
  simpa using this

set_option maxHeartbeats 1000000 in
theorem tableRows_nil (rv : Value) (w : World) (ok : Nat → Prop) (rs : List (List V)) (hrv : Arr2 w ok rv 4 (rowsL rs)) (h : rs = [] ∨ (rs.getD 0 []).length = 0 ∨ 4 < (rs.getD 0 []).length) :
    Calls Yaed.prog 25 #[rv] w fun r w' => r = .returned (.tuple #[nilS, .int .i64 0, .bool false]) ∧ w' = w := by
  obtain ⟨ra, rcap, rvs, rfl, hrc, hrl, hra, hri⟩ := hrv.opened
  have hlen : (rowsL rs).length = rs.length := by simp [rowsL]
  simp only [hlen] at *
  by_cases h0 : rs.length = 0
  · have h1 : ((rs.length : Int) == 0) = true := by simp [h0]
    clear hra hri
    go_enter Yaed.func25, Yaed.ntmps25
    go_wp2_with fail
    go_ret3
    exact ⟨rfl, rfl⟩
  · have h1 : ((rs.length : Int) == 0) = false := beq_eq_false_iff_ne.2 (by omega)
    have h1' : (0 : Int) < rs.length := by omega
    obtain ⟨b, o, rfl, _, hb, hc⟩ := hra 0 (by omega)
    obtain ⟨a0, c0, hv0, _⟩ := hri 0 (by omega)
    rw [hv0] at hc
    have e0 : ((rowsL rs).getD 0 []).length = (rs.getD 0 []).length := by cases rs <;> simp [rowsL]
    rw [e0] at hc
    simp only [Nat.add_zero] at hc
    have h' : (rs.getD 0 []).length = 0 ∨ 4 < (rs.getD 0 []).length := by
      rcases h with h | h
      · subst h; simp at h0
      · exact h
    generalize (rs.getD 0 []).length = n at *
    clear hra hri h hv0 e0
    rcases h' with h' | h'
    · have h2 : ((n : Int) == 0) = true := by simp [h']
      clear h'
      go_enter Yaed.func25, Yaed.ntmps25
      go_wp2_with fail
      go_ret3
      exact ⟨rfl, rfl⟩
    · have h2 : ((n : Int) == 0) = false := by simp; omega
      have h3 : (4 : Int) < n := by omega
      clear h'
      go_enter Yaed.func25, Yaed.ntmps25
      go_wp2_with fail
      go_ret3
      exact ⟨rfl, rfl⟩

set_option maxHeartbeats 1000000 in
theorem tableRows_any (rv : Value) (w : World) (ok : Nat → Prop) (rs : List (List V)) (hrv : Arr2 w ok rv 4 (rowsL rs)) (n : Nat) (hn : (rs.getD 0 []).length = n) (hn1 : 1 ≤ n) (hn4 : n ≤ 4) (h63 : rs.length < 9000000000000000000) :
    Calls Yaed.prog 25 #[rv] w fun r w' => ∃ ov, r = .returned (.tuple #[ov, .int .i64 n, .bool true]) ∧ Arr2 w' (fun b => ok b ∨ w.heap.size ≤ b) ov 4 (rowsL (cutR n rs)) ∧ Below w.heap.size w w' := by
  obtain ⟨ra, rcap, rvs, rfl, hrc, hrl, hra, hri⟩ := hrv.opened
  have hlen : (rowsL rs).length = rs.length := by simp [rowsL]
  have hget : ∀ j, (rowsL rs).getD j [] = (rs.getD j []).map V.list := by
    intro j
    by_cases hj : j < rs.length <;> simp [rowsL, List.getD_eq_getElem?_getD, hj]
  simp only [hlen] at *
  have h0 : 0 < rs.length := by
    cases rs with
    | nil => simp at hn; omega
    | cons r l => simp
  have hval : ∀ j, j < rs.length → ∃ a c, rvs.getD j undef = .slice a (rs.getD j []).length c := by
    intro j hj
    obtain ⟨a, c, h1, _⟩ := hri j hj
    rw [hget j] at h1
    exact ⟨a, c, by simpa using h1⟩
  have HRI : Hid (∀ j, j < rs.length → Arr w ok (rvs.getD j undef) 4 ((rs.getD j []).map V.list)) := fun j hj => by rw [← hget j]; exact hri j hj
  have HRA : Hid (∀ j, j < rs.length → ∃ b o, ra = some ⟨b, o, none⟩ ∧ ok b ∧ b < w.heap.size ∧ w.cell? ⟨b, o + j, none⟩ = some (rvs.getD j undef)) := hra
  have HVAL : Hid (∀ j, j < rs.length → ∃ a c, rvs.getD j undef = .slice a (rs.getD j []).length c) := hval
  have h1 : ((rs.length : Int) == 0) = false := beq_eq_false_iff_ne.2 (by omega)
  have h1' : (0 : Int) < rs.length := by omega
  obtain ⟨b, o, rfl, _, hb, hc⟩ := HRA.out 0 h0
  obtain ⟨a0, c0, hv0⟩ := HVAL.out 0 h0
  rw [hv0, hn, Nat.add_zero] at hc
  have h2 : ((n : Int) == 0) = false := by simp; omega
  have h3 : ¬ (4 : Int) < n := by omega
  clear hra hri hval hrv hget hv0 hlen
  go_enter Yaed.func25, Yaed.ntmps25
  go_wp2_with fail
  clear hc
  go_loopw [24, 6] (fun c v wr => ∃ j : Nat, j ≤ rs.length ∧ c = .int .i64 j ∧ ∃ vn vc va, v = .slice va vn vc ∧ vn ≤ 32 ∧ Hid (vn = (cutP n ((rvs.zip rs).take j)).length ∧ wr.ownsRow w.heap.size 94 1 v vn ((cutP n ((rvs.zip rs).take j)).map (·.1)) ∧ Below w.heap.size w wr)) (fun c _ _ => rs.length - (intOf c).toNat)
  case atStart => exact ⟨0, Nat.zero_le _, rfl, 0, 0, none, rfl, by omega, by simp [cutP], by simpa [cutP] using World.ownsRow_nil _ _ _ _, Below.refl _ _⟩
  case round =>
    obtain ⟨j, hj, rfl, vn, vc, va, rfl, hvn, HI⟩ := hrel
    by_cases hjm : j < rs.length
    · obtain ⟨b', o', he, _, hb', hcj⟩ := HRA.out j hjm
      obtain ⟨rfl, rfl⟩ : b = b' ∧ o = o' := by simpa using he
      obtain ⟨aj, cj, hvj⟩ := HVAL.out j hjm
      have hcr : wr.cell? ⟨b, o + j, none⟩ = some (.slice aj (rs.getD j []).length cj) := by rw [HI.out.2.2.cell (p := ⟨b, _, none⟩) hb, hcj, hvj]
      have HZ : Hid ((rvs.zip rs).take (j + 1) = (rvs.zip rs).take j ++ [(rvs.getD j undef, rs.getD j [])]) := by
        show _ = _
        rw [List.take_succ_eq_append_getElem (by simp; omega), getD_of_lt _ _ _ (by omega), getD_of_lt _ _ _ hjm]
        simp
      have HVJ : Hid _ := hvj
      clear hcj hvj he
      obtain ⟨lj, hlj⟩ : ∃ lj, lj = (rs.getD j []).length := ⟨_, rfl⟩
      have HLJ : Hid (lj = (rs.getD j []).length) := hlj
      rw [← hlj] at hcr
      clear hlj
      by_cases hln : lj = n
      · by_cases h32 : vn < 32
        · have HC : Hid (cutP n ((rvs.zip rs).take (j + 1)) = cutP n ((rvs.zip rs).take j) ++ [(rvs.getD j undef, rs.getD j [])]) := by
            show _ = _
            rw [HZ.out, cutP_snoc, if_pos]
            exact ⟨by show (rs.getD j []).length = n; rw [← HLJ.out]; exact hln, by rw [← HI.out.1]; exact h32⟩
          have hq : ((lj : Int) == (n : Int)) = true := by simp [hln]
          have hq2 : (vn : Int) < 32 := by omega
          have HLN : Hid (lj = n) := hln
          clear hln
          go_wp2_with (at_builtin; go_must (refine wpList_app1 w.heap.size rfl rfl Yaed.underlying22 info94 rfl rfl (HI.out.2.1.alloc _) (by exact heap_new rfl) (by rfl) (by intro u hu; simp at hu; subst hu; rfl) (by omega) (by omega) (by omega) (by have := HI.out.2.2.size; simp; omega) ?_))
          intro g cap w3 hown3 hgrow hat hlt3
          have HX : Hid (w3.ownsRow w.heap.size 94 1 (.slice (some ⟨g, 0, none⟩) (vn + 1) cap) (vn + 1) ((cutP n ((rvs.zip rs).take (j + 1))).map (·.1)) ∧ Below w.heap.size w w3) := by
            constructor
            · rw [HC.out, List.map_append]
              have e : [(rvs.getD j undef, rs.getD j [])].map (·.1) = [Value.slice aj lj cj] := by show [rvs.getD j undef] = _; rw [HVJ.out, ← HLJ.out]
              rw [e]
              exact hown3
            · exact (HI.out.2.2.alloc HI.out.2.2.size _).grown hgrow (by have := HI.out.2.2.size; simp; omega) (fun k hk => (HI.out.2.1.lt k hk).1)
          clear hown3 hgrow hat
          go_wp2_with fail
          go_roundw
          case rel => exact ⟨j + 1, by omega, by go_num, vn + 1, cap, _, rfl, by omega, by rw [HC.out, List.length_append, ← HI.out.1]; rfl, HX.out.1, HX.out.2⟩
          case measure => simp [intOf]; omega
        · have HC : Hid (cutP n ((rvs.zip rs).take (j + 1)) = cutP n ((rvs.zip rs).take j)) := by
            show _ = _
            rw [HZ.out, cutP_snoc, if_neg]
            rw [← HI.out.1]
            exact fun hh => h32 hh.2
          have hq : ((lj : Int) == (n : Int)) = true := by simp [hln]
          have hq2 : ¬ (vn : Int) < 32 := by omega
          clear hln
          go_wp2_with fail
          go_roundw
          case rel => exact ⟨j + 1, by omega, by go_num, vn, vc, va, rfl, hvn, by rw [HC.out]; exact HI.out.1, by rw [HC.out]; exact HI.out.2.1, HI.out.2.2⟩
          case measure => simp [intOf]; omega
      · have HC : Hid (cutP n ((rvs.zip rs).take (j + 1)) = cutP n ((rvs.zip rs).take j)) := by
          show _ = _
          rw [HZ.out, cutP_snoc, if_neg]
          exact fun hh => hln (by rw [HLJ.out]; exact hh.1)
        have hq : ((lj : Int) == (n : Int)) = false := by simp; omega
        clear hln
        go_wp2_with fail
        go_roundw
        case rel => exact ⟨j + 1, by omega, by go_num, vn, vc, va, rfl, hvn, by rw [HC.out]; exact HI.out.1, by rw [HC.out]; exact HI.out.2.1, HI.out.2.2⟩
        case measure => simp [intOf]; omega
    · have ej : j = rs.length := by omega
      subst ej
      go_wp2_with fail
      go_ret3
      have hz : (rvs.zip rs).take rs.length = rvs.zip rs := List.take_of_length_le (by simp; omega)
      have hI := HI.out
      rw [hz] at hI
      have hsnd : (rvs.zip rs).map (·.2) = rs := by
        have := List.map_snd_zip (l₁ := rvs) (l₂ := rs) (by omega)
        exact this
      have hcut : (cutP n (rvs.zip rs)).map (·.2) = cutR n rs := by rw [cutP_snd, hsnd]
      refine ⟨_, rfl, ⟨(cutP n (rvs.zip rs)).map (·.1), ?_, ?_, fun i hi => ?_⟩, hI.2.2⟩
      · simp [rowsL, ← hcut]
      · have hA := Arr.of_owns (rows := ((cutP n (rvs.zip rs)).map (·.1)).map fun x => [x]) (v := .slice va vn vc) (w := wr) (base := w.heap.size) (e := 94) (k := 1)
          (by rw [flat_single, List.length_map, List.length_map, ← hI.1]; exact hI.2.1) (by intro r hr; simp at hr; obtain ⟨x, _, rfl⟩ := hr; rfl)
        exact hA.mono (fun b hb => .inr (hI.2.1.lt b hb).1)
      · have hi' : i < (cutP n (rvs.zip rs)).length := by simpa [rowsL, ← hcut] using hi
        obtain ⟨hm1, hm2⟩ := cutP_mem (List.getElem_mem hi')
        obtain ⟨j, hj, hje⟩ := List.mem_iff_getElem.1 hm1
        have hj2 : j < rs.length := by simp at hj; omega
        have hA := HRI.out j hj2
        have e1 : ((cutP n (rvs.zip rs)).map (·.1)).getD i undef = rvs.getD j undef := by
          rw [getD_of_lt _ _ _ (by simpa using hi'), List.getElem_map, ← hje, getD_of_lt _ _ _ (by omega)]
          simp
        have e2 : (rowsL (cutR n rs)).getD i [] = (rs.getD j []).map V.list := by
          rw [← hcut, getD_of_lt _ _ _ (by simpa [rowsL] using hi'), getD_of_lt _ _ _ hj2]
          simp [rowsL, ← hje]
        rw [e1, e2]
        exact (hA.ext hI.2.2).mono (fun b hb => .inl hb)
end Go.Proofs.YgdaegDoor
