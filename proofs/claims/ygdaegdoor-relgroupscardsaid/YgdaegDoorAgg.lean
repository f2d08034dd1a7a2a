import Derived.Test.YgdaegDoorNames
import Derived.Test.YgdaegDoorApp
namespace Go.Proofs.YgdaegDoor
open Go.RowKit
set_option linter.unusedSimpArgs false
set_option linter.unusedVariables false
def usesT (k : Int) : Bool := k == 0 || k == 2 || k == 4 || k == 1 || k == 5 || k == 6 || k == 7
def usesI (k : Int) : Bool := k == 1 || k == 3
def usesW (k : Int) : Bool := k == 5 || k == 6 || k == 7
set_option maxHeartbeats 1000000 in
theorem uses_any (k : Int) (hk : k = 0 ∨ k = 1 ∨ k = 2 ∨ k = 3 ∨ k = 4 ∨ k = 5 ∨ k = 7) (w : World) :
    Calls Yaed.prog 116 #[.int .u8 k] w fun r w' => r = .returned (.tuple #[.bool (usesT k), .bool (usesI k), .bool (usesW k)]) ∧ w' = w := by
  rcases hk with rfl | rfl | rfl | rfl | rfl | rfl | rfl <;> (go_enter Yaed.func116, Yaed.ntmps116; go_wp2_with fail; go_ret3; exact ⟨rfl, rfl⟩)

set_option maxRecDepth 20000 in
set_option maxHeartbeats 2000000 in
theorem aggregates_none (es : List E) (hl : es.length ≤ 128) (w : World) (ok : Nat → Prop) (av : Value) (hav : Arr w ok av 12 (es.map E.list)) (hno : ∀ i, i < es.length → ((es.getD i (leafE 0 V0)).op == 26) = false) :
    Calls Yaed.prog 61 #[av] w fun r w' => r = .returned (.int .i64 0) ∧ w' = w := by
  obtain ⟨aa, acap, rfl, hnode⟩ := hav.node
  have HNODE : Hid (∀ i, i < es.length → ∃ b o, aa = some ⟨b, o, none⟩ ∧ ok b ∧ NodeAt w b (o + i * 12) (es.getD i (leafE 0 V0))) := hnode
  have HNO : Hid _ := hno
  clear hnode hav hno
  go_enter Yaed.func61, Yaed.ntmps61
  go_wp2_with fail
  go_loopw [7, 3] (fun c n wr => ∃ k : Nat, k ≤ es.length ∧ c = .int .i64 k ∧ n = .int .i64 0 ∧ wr = w) (fun c _ _ => es.length - (intOf c).toNat)
  case atStart => exact ⟨0, Nat.zero_le _, rfl, rfl, rfl⟩
  case round =>
    obtain ⟨k, hk, rfl, rfl, rfl⟩ := hrel
    by_cases hkn : k < es.length
    · obtain ⟨b, o, rfl, _, hN⟩ := HNODE.out k hkn
      have h26 := HNO.out k hkn
      obtain ⟨ei, hei⟩ : ∃ ei, es.getD k (leafE 0 V0) = ei := ⟨_, rfl⟩
      rw [hei] at hN h26
      have f0 := hN.facts.1
      clear hN hei
      go_wp2_with fail
      go_roundw
      case rel => first | exact ⟨k + 1, by omega, by go_num, rfl, trivial⟩ | exact ⟨k + 1, by omega, by go_num, trivial⟩
      case measure => simp [intOf]; omega
    · have ek : k = es.length := by omega
      subst ek
      go_wp2_with fail
      go_ret
      exact ⟨by simp, rfl⟩

set_option maxRecDepth 20000 in
set_option maxHeartbeats 2000000 in
theorem aggregatesRight_none (es : List E) (hl : es.length ≤ 128) (w : World) (ok ok' : Nat → Prop) (av rv gv : Value) (hav : Arr w ok av 12 (es.map E.list)) (hno : ∀ i, i < es.length → ((es.getD i (leafE 0 V0)).op == 26) = false)
    (rts : List Nat) (hrt : ∀ r ∈ rts, r < es.length) (hrl : rts.length ≤ 128) (hrv : Arr w ok' rv 1 (i16L rts)) :
    Calls Yaed.prog 63 #[av, rv, gv] w fun r w' => r = .returned (.bool true) ∧ w' = w := by
  have HAV : Hid _ := hav
  obtain ⟨aa, acap, rfl, hnode⟩ := hav.node
  obtain ⟨ra, rcap, rfl, _, hroot⟩ := hrv
  have hrl' : (i16L rts).length = rts.length := by simp [i16L]
  simp only [hrl'] at *
  have HNODE : Hid (∀ i, i < es.length → ∃ b o, aa = some ⟨b, o, none⟩ ∧ ok b ∧ NodeAt w b (o + i * 12) (es.getD i (leafE 0 V0))) := hnode
  have HROOT : Hid _ := hroot
  have HNO : Hid _ := hno
  have HRT : Hid _ := hrt
  clear hnode hav hno hroot hrt
  go_enter Yaed.func63, Yaed.ntmps63
  go_wp2_with fail
  refine (aggregates_none es hl w ok _ HAV.out HNO.out).mono ?_
  rintro e w1 ⟨rfl, rfl⟩
  go_wp2_with fail
  go_loopw [18, 7] (fun c f wr => ∃ j : Nat, j ≤ rts.length ∧ c = .int .i64 j ∧ (∃ n : Nat, n ≤ 128 ∧ f = .int .i16 n) ∧ wr = w1) (fun c _ _ => rts.length - (intOf c).toNat)
  case atStart => exact ⟨0, Nat.zero_le _, rfl, ⟨0, by omega, rfl⟩, rfl⟩
  case round =>
    obtain ⟨j, hj, rfl, ⟨n, hn, rfl⟩, rfl⟩ := hrel
    by_cases hjn : j < rts.length
    · obtain ⟨b, o, rfl, _, hb, hc0⟩ := HROOT.out j hjn
      have hc0' := hc0 0 (by omega)
      obtain ⟨r, hr⟩ : ∃ r, r = rts[j] := ⟨_, rfl⟩
      have hcr : wr.cell? ⟨b, o + j, none⟩ = some (.int .i16 r) := by
        simpa [i16L, List.getD_eq_getElem?_getD, hjn, ← hr] using hc0'
      have hrn : r < es.length := HRT.out r (by rw [hr]; exact List.getElem_mem hjn)
      clear hc0 hc0' hr hb
      go_wp2_with fail
      go_loopw [10] (fun c wr' => ∃ k : Nat, k ≤ 128 ∧ c = .int .i16 k ∧ wr' = wr) (fun c _ => 128 - (intOf c).toNat)
      case atStart => exact ⟨n, hn, rfl, rfl⟩
      case round =>
        obtain ⟨k, hk, rfl, rfl⟩ := hrel
        by_cases hkr : k ≤ r
        · obtain ⟨b2, o2, rfl, _, hN⟩ := HNODE.out k (by omega)
          have h26 := HNO.out k (by omega)
          obtain ⟨ei, hei⟩ : ∃ ei, es.getD k (leafE 0 V0) = ei := ⟨_, rfl⟩
          rw [hei] at hN h26
          have f0 := hN.facts.1
          have h26' : (ei.op != 26) = true := by simpa using h26
          clear hN hei
          go_wp2_with fail
          go_roundw
          case rel => first | exact ⟨k + 1, by omega, by go_num, rfl, trivial⟩ | exact ⟨k + 1, by omega, by go_num, trivial⟩
          case measure => simp [intOf]; omega
        · have hkr' : ¬ (k : Int) ≤ r := by omega
          go_wp2_with fail
          go_roundw
          case rel => exact ⟨j + 1, by omega, by go_num, ⟨r + 1, by omega, by go_num⟩, trivial⟩
          case measure => simp [intOf]; omega
    · have ej : j = rts.length := by omega
      subst ej
      go_wp2_with fail
      go_ret
      exact ⟨by simp, rfl⟩
end Go.Proofs.YgdaegDoor
