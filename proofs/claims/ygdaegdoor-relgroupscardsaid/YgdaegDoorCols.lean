import Derived.Test.YgdaegDoorRoots
import Derived.Test.YgdaegDoorAgg
namespace Go.Proofs.YgdaegDoor
open Go.RowKit
set_option linter.unusedSimpArgs false
set_option linter.unusedVariables false

set_option maxRecDepth 20000 in
set_option maxHeartbeats 4000000 in
theorem checkTuplesSets_any (s : St) (ps : Nat) (tl : List (List Nat)) (w : World) (ok : Nat → Prop) (hst : StAt w ps s) (ht : Arr2 w ok s.tuples 1 (tl.map i16L))
    (hk : ((s.kind == 4) = true ∧ 0 < tl.length) ∨ ((s.kind == 4) = false ∧ tl.length = 0)) (hk6 : (s.kind == 6) = false) (htl : tl.length ≤ 32) (hne : ∀ t ∈ tl, t ≠ []) :
    Calls Yaed.prog 119 #[.pointer (some ⟨ps, 0, none⟩)] w fun r w' => r = .returned (.bool true) ∧ Below w.heap.size w w' := by
  obtain ⟨tvs, htvl, ht1, ht2⟩ := ht
  obtain ⟨ta, tcap, htv, htc, htcell⟩ := ht1
  have htlen : (tvs.map fun x => [x]).length = tl.length := by simpa using htvl
  rw [htlen] at htv htc
  have HTC : Hid _ := htcell
  have HT2 : Hid _ := ht2
  have HNE : Hid _ := hne
  obtain ⟨f0, f3, f4, f5, f9, f10, f11, f13, f14, f18⟩ := hst.facts
  rw [htv] at f9
  clear f3 f4 f5 f10 f11 f14 f18 htcell ht2 hst hne
  go_enter Yaed.func119, Yaed.ntmps119
  go_wp2_with fail
  refine wp_region_can (l := [_, _, _, _, _, _, _, _, _, _, _, _, _, _, _, _, _, _, _, _, _, _, _, _, _]) [(true, 0), (true, 1), (true, 2), (true, 3), (true, 4), (true, 5), (true, 6), (true, 7), (true, 8), (true, 9), (true, 10), (true, 11), (true, 12), (true, 13), (true, 14), (true, 15), (true, 16), (true, 17), (true, 18), (true, 19), (true, 20), (true, 21), (true, 22), (true, 23), (true, 24)] (fun W => W.cell? ⟨ps, 0, none⟩ = some (.int .u8 s.kind) ∧ W.cell? ⟨ps, 9, none⟩ = some (.slice ta tl.length tcap) ∧ W.cell? ⟨ps, 13, none⟩ = some nilS) (by kernel_rfl) (by kernel_rfl) ⟨f0, f9, f13⟩ ?_
  rcases hk with ⟨hk4, htp⟩ | ⟨hk4, htp⟩
  · have htp' : (0 : Int) < tl.length := by omega
    repeat (first | ((first | refine wpCan_q (v := ?_) rfl rfl rfl ?_ ?_ | refine wpCan_qg (v := ?_) rfl rfl (by rfl) ?_ ?_); rotate_left; (focus (rintro W ⟨q1, q2, q3⟩; go_simp; first | done | exact rfl)); simp only [Act.put, List.setIfInBounds_toArray, List.set_cons_zero, List.set_cons_succ]) | (refine wpCan_skip rfl rfl (by rfl) ?_; simp only [Act.put, List.setIfInBounds_toArray, List.set_cons_zero, List.set_cons_succ]))
    refine wpCan_nil ?_
    go_wp2_with fail
    go_loopw [38] (fun c wr => ∃ j : Nat, j ≤ tl.length ∧ c = .int .i64 j ∧ wr = w.drew) (fun c _ => tl.length - (intOf c).toNat)
    case atStart => exact ⟨0, Nat.zero_le _, rfl, rfl⟩
    case round =>
      obtain ⟨j, hj, rfl, rfl⟩ := hrel
      by_cases hjn : j < tl.length
      · obtain ⟨b, o, rfl, _, hb, hcell⟩ := HTC.out j (by omega)
        have hc0 := hcell 0 (by omega)
        obtain ⟨tv, htv'⟩ : ∃ tv, tvs.getD j undef = tv := ⟨_, rfl⟩
        have hcc : w.cell? ⟨b, o + j, none⟩ = some tv := by
          rw [← htv']
          simpa [List.getD_eq_getElem?_getD, htvl, hjn] using hc0
        have hT := HT2.out j (by simpa using hjn)
        rw [htv'] at hT
        obtain ⟨xa, xc, rfl, _⟩ := hT
        have hpos : 0 < ((tl.map i16L).getD j []).length := by
          have h1 : tl[j] ≠ [] := HNE.out _ (List.getElem_mem hjn)
          have h2 : 0 < tl[j].length := List.length_pos_iff.2 h1
          simpa [List.getD_eq_getElem?_getD, hjn, i16L] using h2
        obtain ⟨q, hq⟩ : ∃ q, ((tl.map i16L).getD j []).length = q := ⟨_, rfl⟩
        rw [hq] at hpos hcc
        have hpos' : ((q : Int) == 0) = false := by simp; omega
        have hq0 : ¬ q = 0 := by omega
        clear hc0 hcell htv' hq hb
        go_wp2_with fail
        go_roundw
        case rel => exact ⟨j + 1, by omega, by go_num, trivial⟩
        case measure => simp [intOf]; omega
      · have ej : j = tl.length := by omega
        subst ej
        go_wp2_with fail
        refine wp_loop_rounds 1 ?_
        rw [rounds_succ]
        go_wp2_with fail
        go_ret
        exact ⟨by simp, by go_grown⟩
  · have htp0 : tl = [] := List.length_eq_zero_iff.1 htp
    subst htp0
    repeat (first | ((first | refine wpCan_q (v := ?_) rfl rfl rfl ?_ ?_ | refine wpCan_qg (v := ?_) rfl rfl (by rfl) ?_ ?_); rotate_left; (focus (rintro W ⟨q1, q2, q3⟩; go_simp; first | done | exact rfl)); simp only [Act.put, List.setIfInBounds_toArray, List.set_cons_zero, List.set_cons_succ]) | (refine wpCan_skip rfl rfl (by rfl) ?_; simp only [Act.put, List.setIfInBounds_toArray, List.set_cons_zero, List.set_cons_succ]))
    refine wpCan_nil ?_
    go_wp2_with fail
    refine wp_loop_rounds 1 ?_
    rw [rounds_succ]
    go_wp2_with fail
    refine wp_loop_rounds 1 ?_
    rw [rounds_succ]
    go_wp2_with fail
    go_ret
    exact ⟨by simp, by go_grown⟩

set_option maxRecDepth 20000 in
set_option maxHeartbeats 4000000 in
theorem checkCols_other (s : St) (ps : Nat) (w : World) (hst : StAt w ps s) (hc : s.cols = nilS) (hk0 : (s.kind == 0) = false) (hk1 : (s.kind == 1) = false) :
    Calls Yaed.prog 118 #[.pointer (some ⟨ps, 0, none⟩)] w fun r w' => r = .returned (.bool true) ∧ Below w.heap.size w w' := by
  have f0 := hst.facts.1
  have f8 : w.cell? ⟨ps, 8, none⟩ = some s.cols := hst.cell 8
  rw [hc] at f8
  clear hst
  go_enter Yaed.func118, Yaed.ntmps118
  go_wp2_with fail
  go_ret
  exact ⟨by simp, Below.refl _ _⟩

/-- A good name. -/
def Good (n : ByteArray) : Prop := ∀ w, Calls Yaed.prog 117 #[.string n] w fun r w' => r = .returned (.bool true) ∧ Below w.heap.size w w'
theorem good_cname (i : Nat) (hi : i < 4) : Good (cname i) := by
  intro w
  rcases (by omega : i = 0 ∨ i = 1 ∨ i = 2 ∨ i = 3) with rfl | rfl | rfl | rfl
  · exact goodName_c0 w
  · exact goodName_c1 w
  · exact goodName_c2 w
  · exact goodName_c3 w

set_option maxRecDepth 20000 in
set_option maxHeartbeats 4000000 in
theorem checkCols_create (s : St) (ps : Nat) (w : World) (ok : Nat → Prop) (ns : List ByteArray) (hst : StAt w ps s) (hc : Arr w ok s.cols 3 (ns.map colL)) (hk0 : s.kind = 0) (h0 : 0 < ns.length) (h4 : ns.length ≤ 4) (hg : ∀ n ∈ ns, Good n) :
    Calls Yaed.prog 118 #[.pointer (some ⟨ps, 0, none⟩)] w fun r w' => r = .returned (.bool true) ∧ Below w.heap.size w w' := by
  have f0 := hst.facts.1
  have f8 : w.cell? ⟨ps, 8, none⟩ = some s.cols := hst.cell 8
  rw [hk0] at f0
  obtain ⟨ca, cc, hcv, hcc, hcell⟩ := hc
  rw [List.length_map] at hcv
  rw [hcv] at f8
  have HCELL : Hid _ := hcell
  have HG : Hid _ := hg
  clear hst hcell hg
  have hl0' : ¬ ns = [] := by intro e; subst e; simp at h0
  have hl0 : ((ns.length : Int) == 0) = false := by simpa using hl0'
  go_enter Yaed.func118, Yaed.ntmps118
  go_wp2_with fail
  go_loopw [24] (fun c wr => ∃ k : Nat, k ≤ ns.length ∧ c = .int .i64 k ∧ Hid (Below w.heap.size w wr)) (fun c _ => ns.length - (intOf c).toNat)
  case atStart => exact ⟨0, Nat.zero_le _, rfl, Below.refl _ _⟩
  case round =>
    obtain ⟨k, hk, rfl, HB⟩ := hrel
    by_cases hkn : k < ns.length
    · obtain ⟨b, o, rfl, _, hb, hcl⟩ := HCELL.out k (by simpa using hkn)
      obtain ⟨nm, hnm⟩ : ∃ nm, ns[k] = nm := ⟨_, rfl⟩
      have hgd := HG.out nm (by rw [← hnm]; exact List.getElem_mem hkn)
      have g0 : wr.cell? ⟨b, o + k * 3, none⟩ = some (.string nm) := by
        rw [HB.out.cell (p := ⟨b, _, none⟩) hb]
        have := hcl 0 (by omega)
        simpa [List.getD_eq_getElem?_getD, hkn, hnm, colL] using this
      have g1 : wr.cell? ⟨b, o + k * 3 + 1, none⟩ = some (.int .u8 0) := by
        rw [HB.out.cell (p := ⟨b, _, none⟩) hb]
        have := hcl 1 (by omega)
        simpa [List.getD_eq_getElem?_getD, hkn, hnm, colL] using this
      have g2 : wr.cell? ⟨b, o + k * 3 + 2, none⟩ = some (.bool false) := by
        rw [HB.out.cell (p := ⟨b, _, none⟩) hb]
        have := hcl 2 (by omega)
        simpa [List.getD_eq_getElem?_getD, hkn, hnm, colL] using this
      have HGD : Hid _ := hgd
      clear hcl hgd
      go_wp2_with fail
      generalize hw1 : World.alloc _ _ = w1
      have HB1 : Hid (Below wr.heap.size wr w1) := by rw [← hw1]; exact below_alloc _ _
      have q1 : w1.cell? ⟨wr.heap.size, 1, none⟩ = some (.int .u8 0) := by rw [← hw1]; simp [go_sem]
      have q2 : w1.heap.size = wr.heap.size + 1 := by rw [← hw1]; simp
      clear hw1
      refine (HGD.out w1).mono ?_
      rintro e w2 ⟨rfl, hb2⟩
      have q3 : w2.cell? ⟨wr.heap.size, 1, none⟩ = some (.int .u8 0) := by rw [hb2.cell (p := ⟨_, _, none⟩) (by show wr.heap.size < w1.heap.size; omega)]; exact q1
      have HB2 : Hid (Below w.heap.size w w2) := HB.out.trans ((HB1.out.trans (hb2.mono HB1.out.size)).mono HB.out.size)
      clear hb2 HB1 q1
      go_wp2_with fail
      go_roundw
      case rel => exact ⟨k + 1, by omega, by go_num, HB2⟩
      case measure => simp [intOf]; omega
    · have ek : k = ns.length := by omega
      subst ek
      go_wp2_with fail
      go_ret
      exact ⟨by simp, HB.out⟩
set_option maxRecDepth 20000 in
set_option maxHeartbeats 4000000 in
theorem checkCols_index (s : St) (ps : Nat) (w : World) (ok : Nat → Prop) (ns : List ByteArray) (hst : StAt w ps s) (hc : Arr w ok s.cols 3 (ns.map colL)) (hk0 : s.kind = 1) (h0 : 0 < ns.length) (h4 : ns.length ≤ 2) (hg : ∀ n ∈ ns, Good n) :
    Calls Yaed.prog 118 #[.pointer (some ⟨ps, 0, none⟩)] w fun r w' => r = .returned (.bool true) ∧ Below w.heap.size w w' := by
  have f0 := hst.facts.1
  have f8 : w.cell? ⟨ps, 8, none⟩ = some s.cols := hst.cell 8
  rw [hk0] at f0
  obtain ⟨ca, cc, hcv, hcc, hcell⟩ := hc
  rw [List.length_map] at hcv
  rw [hcv] at f8
  have HCELL : Hid _ := hcell
  have HG : Hid _ := hg
  clear hst hcell hg
  have hl0' : ¬ ns = [] := by intro e; subst e; simp at h0
  have hl1 : ¬ (ns.length : Int) < 1 := by omega
  have hl2 : ¬ (2 : Int) < ns.length := by omega
  have hl0 : ((ns.length : Int) == 0) = false := by simpa using hl0'
  go_enter Yaed.func118, Yaed.ntmps118
  go_wp2_with fail
  go_loopw [59] (fun c wr => ∃ k : Nat, k ≤ ns.length ∧ c = .int .i64 k ∧ Hid (Below w.heap.size w wr)) (fun c _ => ns.length - (intOf c).toNat)
  case atStart => exact ⟨0, Nat.zero_le _, rfl, Below.refl _ _⟩
  case round =>
    obtain ⟨k, hk, rfl, HB⟩ := hrel
    by_cases hkn : k < ns.length
    · obtain ⟨b, o, rfl, _, hb, hcl⟩ := HCELL.out k (by simpa using hkn)
      obtain ⟨nm, hnm⟩ : ∃ nm, ns[k] = nm := ⟨_, rfl⟩
      have hgd := HG.out nm (by rw [← hnm]; exact List.getElem_mem hkn)
      have g0 : wr.cell? ⟨b, o + k * 3, none⟩ = some (.string nm) := by
        rw [HB.out.cell (p := ⟨b, _, none⟩) hb]
        have := hcl 0 (by omega)
        simpa [List.getD_eq_getElem?_getD, hkn, hnm, colL] using this
      have g1 : wr.cell? ⟨b, o + k * 3 + 1, none⟩ = some (.int .u8 0) := by
        rw [HB.out.cell (p := ⟨b, _, none⟩) hb]
        have := hcl 1 (by omega)
        simpa [List.getD_eq_getElem?_getD, hkn, hnm, colL] using this
      have g2 : wr.cell? ⟨b, o + k * 3 + 2, none⟩ = some (.bool false) := by
        rw [HB.out.cell (p := ⟨b, _, none⟩) hb]
        have := hcl 2 (by omega)
        simpa [List.getD_eq_getElem?_getD, hkn, hnm, colL] using this
      have HGD : Hid _ := hgd
      clear hcl hgd
      go_wp2_with fail
      generalize hw1 : World.alloc _ _ = w1
      have HB1 : Hid (Below wr.heap.size wr w1) := by rw [← hw1]; exact below_alloc _ _
      have q1 : w1.cell? ⟨wr.heap.size, 1, none⟩ = some (.int .u8 0) := by rw [← hw1]; simp [go_sem]
      have p1 : w1.cell? ⟨wr.heap.size, 2, none⟩ = some (.bool false) := by rw [← hw1]; simp [go_sem]
      have q2 : w1.heap.size = wr.heap.size + 1 := by rw [← hw1]; simp
      clear hw1
      refine (HGD.out w1).mono ?_
      rintro e w2 ⟨rfl, hb2⟩
      have q3 : w2.cell? ⟨wr.heap.size, 1, none⟩ = some (.int .u8 0) := by rw [hb2.cell (p := ⟨_, _, none⟩) (by show wr.heap.size < w1.heap.size; omega)]; exact q1
      have p3 : w2.cell? ⟨wr.heap.size, 2, none⟩ = some (.bool false) := by rw [hb2.cell (p := ⟨_, _, none⟩) (by show wr.heap.size < w1.heap.size; omega)]; exact p1
      have HB2 : Hid (Below w.heap.size w w2) := HB.out.trans ((HB1.out.trans (hb2.mono HB1.out.size)).mono HB.out.size)
      clear hb2 HB1 q1 p1
      go_wp2_with fail
      go_roundw
      case rel => exact ⟨k + 1, by omega, by go_num, HB2⟩
      case measure => simp [intOf]; omega
    · have ek : k = ns.length := by omega
      subst ek
      go_wp2_with fail
      go_ret
      exact ⟨by simp, HB.out⟩
end Go.Proofs.YgdaegDoor
