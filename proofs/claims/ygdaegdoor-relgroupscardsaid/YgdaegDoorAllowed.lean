import Derived.Test.YgdaegDoorIndex
namespace Go.Proofs.YgdaegDoor
open Go.RowKit
set_option linter.unusedSimpArgs false
set_option linter.unusedVariables false
set_option maxRecDepth 20000 in
set_option maxHeartbeats 4000000 in
/-- allowed: no column is NOT NULL. -/
theorem allowed_any (bt : Nat) (ns : List ByteArray) (hn4 : ns.length ≤ 4) (ca : Option Addr) (cc : Nat) (iv : Value) (ra : Option Addr) (m rc : Nat) (hm : m ≤ 100) (w : World) (ok : Nat → Prop) (hbt : bt < w.heap.size)
    (h1 : w.cell? ⟨bt, 1, none⟩ = some (.slice ca ns.length cc)) (h2 : w.cell? ⟨bt, 2, none⟩ = some iv) (hc : Arr w ok (.slice ca ns.length cc) 3 (ns.map colL))
    (hr : ∀ k, k < m → ∃ b o v, ra = some ⟨b, o, none⟩ ∧ b < w.heap.size ∧ w.cell? ⟨b, o + k, none⟩ = some v)
    (hU : ∀ w1, Below w.heap.size w w1 → Calls Yaed.prog 221 #[.slice ca ns.length cc, .slice ra m rc, iv] w1 fun r w2 => r = .returned (.bool true) ∧ Below w1.heap.size w1 w2) :
    Calls Yaed.prog 232 #[.pointer (some ⟨bt, 0, none⟩), .slice ra m rc] w fun r w' => r = .returned (.bool true) ∧ Below w.heap.size w w' := by
  have HC : Hid (Arr w ok (.slice ca ns.length cc) 3 (ns.map colL)) := hc
  have HR : Hid (∀ k, k < m → ∃ b o v, ra = some ⟨b, o, none⟩ ∧ b < w.heap.size ∧ w.cell? ⟨b, o + k, none⟩ = some v) := hr
  have HU : Hid (∀ w1, Below w.heap.size w w1 → Calls Yaed.prog 221 #[.slice ca ns.length cc, .slice ra m rc, iv] w1 fun r w2 => r = .returned (.bool true) ∧ Below w1.heap.size w1 w2) := hU
  have H1 : Hid (w.cell? ⟨bt, 1, none⟩ = some (.slice ca ns.length cc) ∧ w.cell? ⟨bt, 2, none⟩ = some iv) := ⟨h1, h2⟩
  clear hc hr hU h1 h2
  go_enter Yaed.func232, Yaed.ntmps232
  go_wp2_with fail
  go_loopw [11] (fun c wr => ∃ k : Nat, k ≤ m ∧ c = .int .i64 k ∧ Hid (Below w.heap.size w wr)) (fun c _ => m - (intOf c).toNat)
  case atStart => exact ⟨0, Nat.zero_le _, rfl, Below.refl _ _⟩
  case round =>
    obtain ⟨k, hk, rfl, HB⟩ := hrel
    have e1 : wr.cell? ⟨bt, 1, none⟩ = some (.slice ca ns.length cc) := by rw [HB.out.cell (p := ⟨bt, _, none⟩) hbt]; exact H1.out.1
    have e2 : wr.cell? ⟨bt, 2, none⟩ = some iv := by rw [HB.out.cell (p := ⟨bt, _, none⟩) hbt]; exact H1.out.2
    by_cases hkm : k < m
    · obtain ⟨b, o, v, rfl, hb, hv⟩ := HR.out k hkm
      have hv' : wr.cell? ⟨b, o + k, none⟩ = some v := by rw [HB.out.cell (p := ⟨b, _, none⟩) hb]; exact hv
      clear hv e2
      generalize hH : wr.heap.size = H1' at *
      clear hH
      go_wp2_with fail
      clear hv' e1
      have HBr : Hid (Below w.heap.size w wr) := HB
      generalize wr = wo at HBr ⊢
      go_loopw [20] (fun c wr => ∃ j : Nat, j ≤ ns.length ∧ c = .int .i64 j ∧ Hid (Below w.heap.size w wr)) (fun c _ => ns.length - (intOf c).toNat)
      case atStart => exact ⟨0, Nat.zero_le _, rfl, HBr⟩
      case round =>
        obtain ⟨j, hj, rfl, HB2⟩ := hrel
        by_cases hjn : j < ns.length
        · obtain ⟨cb, co, rfl, _, hcb, g0, g1, g2⟩ := colAt HC.out j hjn
          obtain ⟨nm, hnm⟩ : ∃ nm, ns[j] = nm := ⟨_, rfl⟩
          rw [hnm] at g0
          clear hnm
          rw [← HB2.out.cell (p := ⟨cb, _, none⟩) hcb] at g0 g1 g2
          go_wp2_with fail
          go_roundw
          case rel => exact ⟨j + 1, by omega, by go_num, HB2.out.alloc HB2.out.size _⟩
          case measure => simp [intOf]; omega
        · go_wp2_with fail
          go_roundw
          case rel => exact ⟨k + 1, by omega, by go_num, HB2⟩
          case measure => simp [intOf]; omega
    · go_wp2_with fail
      refine wp_region_can (l := [_, _, _, _, _, _, _, _, _]) [(true, 0), (true, 1), (true, 2), (true, 3), (true, 4), (true, 5), (true, 6), (true, 7), (true, 8)] (fun W => W.cell? ⟨bt, 1, none⟩ = some (.slice ca ns.length cc) ∧ W.cell? ⟨bt, 2, none⟩ = some iv) (by kernel_rfl) (by kernel_rfl) ⟨e1, e2⟩ ?_
      repeat (first | ((first | refine wpCan_q (v := ?_) rfl rfl rfl ?_ ?_ | refine wpCan_qg (v := ?_) rfl rfl (by rfl) ?_ ?_); rotate_left; (focus (rintro W ⟨q1, q2⟩; go_simp; first | done | exact rfl)); simp only [Act.put, List.setIfInBounds_toArray, List.set_cons_zero, List.set_cons_succ]) | (refine wpCan_skip rfl rfl (by rfl) ?_; simp only [Act.put, List.setIfInBounds_toArray, List.set_cons_zero, List.set_cons_succ]))
      refine wpCan_nil ?_
      generalize hw1 : World.drew _ = w1
      have HB1 : Hid (Below w.heap.size w w1) := by rw [← hw1]; exact HB.out.drew
      clear hw1 e1 e2
      go_wp2_with fail
      refine (HU.out _ HB1.out).mono ?_
      rintro e w2 ⟨rfl, hb2⟩
      have HB2 : Hid (Below w.heap.size w w2) := HB1.out.trans (hb2.mono HB1.out.size)
      clear hb2
      go_wp2_with fail
      go_ret
      exact ⟨rfl, HB2.out⟩
end Go.Proofs.YgdaegDoor
