import Derived.Test.YgdaegDoorStar
import Derived.Test.YgdaegDoorSmall
import Derived.Test.YgdaegDoorGt
import Derived.Test.YgdaegDoorExprs
import Derived.Test.YgdaegDoorMid
namespace Go.Proofs.YgdaegDoor
open Go.RowKit
set_option linter.unusedSimpArgs false
set_option linter.unusedVariables false
/-- The nodes of a grouping SELECT: columns and aggregates. -/
def SelNode (n : Nat) (e : E) : Prop := (∃ c, c < n ∧ e = colE (cname c)) ∨ (∃ nm a, e = aggE nm a)
theorem size150 : (Yaed.prog.info? 150).map (·.size) = some 12 := by kernel_rfl
theorem NodeAt.range {w : World} {b off : Nat} {e : E} (h : NodeAt w b off e) : w.rangeAt b off e.list := fun j v hv => by
  have h1 : j < 12 := (List.getElem?_eq_some_iff.1 hv).1
  rw [h.2 j h1, List.getD_eq_getElem?_getD, hv]
  rfl
theorem SelNode.table {n : Nat} {e : E} (h : SelNode n e) : e.table = ⟨#[]⟩ := by
  rcases h with ⟨c, _, rfl⟩ | ⟨nm, a, rfl⟩ <;> rfl
set_option maxRecDepth 20000 in
set_option maxHeartbeats 2000000 in
/-- checkExprs over columns of the table and aggregates. -/
theorem checkExprs_sel (n : Nat) (h4 : n ≤ 4) (b o an cap : Nat) (han : an < 30000) (l : Int) (hl : l = (an : Int) - 1) (es : Nat → E) (hes : ∀ i, i < an → SelNode n (es i)) (cv : Value) (w : World) (hN : ∀ i, i < an → NodeAt w b (o + i * 12) (es i)) (hcv : ∃ ok, Arr w ok cv 3 ((nsN n).map colL)) :
    Calls Yaed.prog 224 #[.slice (some ⟨b, o, none⟩) an cap, .int .i64 0, .int .i64 l, cv, .bool true] w fun r w' => r = .returned (.int .u8 0) ∧ Below w.heap.size w w' := by
  have HES : Hid (∀ i, i < an → SelNode n (es i)) := hes
  have HN : Hid (∀ i, i < an → NodeAt w b (o + i * 12) (es i)) := hN
  have HCV : Hid (∃ ok, Arr w ok cv 3 ((nsN n).map colL)) := hcv
  have HLN : Hid (l = (an : Int) - 1) := hl
  clear hes hN hcv hl
  go_enter Yaed.func224, Yaed.ntmps224
  go_wp2_with fail
  go_loopw [11] (fun c wr => ∃ k : Nat, k ≤ an ∧ c = .int .i64 k ∧ Hid (Below w.heap.size w wr)) (fun c _ => an - (intOf c).toNat)
  case atStart => exact ⟨0, Nat.zero_le _, rfl, Below.refl _ _⟩
  case round =>
    obtain ⟨k, hk, rfl, HB⟩ := hrel
    by_cases hkl : k < an
    · have h1 : (k : Int) ≤ l := by have := HLN.out; omega
      have h2 : (k : Int) < an := by omega
      have hnode := (HN.out k hkl).ext HB.out
      rcases HES.out k hkl with ⟨c, hc, he⟩ | ⟨nm, a, he⟩
      · rw [he] at hnode
        obtain ⟨f0, _, _, _, _, _, _, _, _, _, fn, _⟩ := hnode.facts
        simp only [colE] at f0 fn
        have hrid := cname_rowid c (by omega)
        clear hnode
        have HCI : Hid (∀ W, Below w.heap.size w W → Calls Yaed.prog 128 #[cv, .string (cname c)] W fun r w' => r = .returned (.int .i64 c) ∧ Below W.heap.size W w') := fun W hW => by
          obtain ⟨ok, ha⟩ := HCV.out
          exact colIndex_any (nsN n) (cname c) c (by rw [nsN_len]; exact hc) (by rw [nsN_len]; exact h4) (nsN_get hc) (fun j hj => by rw [nsN_get (by omega)]; exact cname_ne c j (by omega) hj) cv W ok (ha.ext hW)
        obtain ⟨cs, hcs⟩ : ∃ cs, cname c = cs := ⟨_, rfl⟩
        rw [hcs] at fn hrid HCI
        clear hcs he
        go_wp2_with fail
        refine (HCI.out _ HB.out).mono ?_
        rintro e w2 ⟨rfl, hb2⟩
        have HB2 : Hid (Below w.heap.size w w2) := HB.out.trans (hb2.mono HB.out.size)
        clear hb2 f0 fn
        have hc0 : ¬ (c : Int) < 0 := by omega
        go_wp2_with fail
        go_roundw
        case rel => exact ⟨k + 1, by omega, by go_num, HB2⟩
        case measure => simp [intOf]; omega
      · rw [he] at hnode
        obtain ⟨f0, _⟩ := hnode.facts
        simp only [aggE] at f0
        clear hnode he
        go_wp2_with fail
        go_roundw
        case rel => exact ⟨k + 1, by omega, by go_num, HB⟩
        case measure => simp [intOf]; omega
    · have h1 : ¬ (k : Int) ≤ l := by have := HLN.out; omega
      go_wp2_with fail
      go_ret
      exact ⟨rfl, HB.out⟩
set_option maxRecDepth 20000 in
set_option maxHeartbeats 2000000 in
/-- A SELECT of one table, no column with a table's name: not joined. -/
theorem joined_sel (ps b o an cap : Nat) (han : an < 30000) (es : Nat → E) (hes : ∀ i, i < an → (es i).table = ⟨#[]⟩) (w : World) (hps : ps < w.heap.size) (h3 : w.cell? ⟨ps, 3, none⟩ = some nilS) (h18 : w.cell? ⟨ps, 18, none⟩ = some (.slice (some ⟨b, o, none⟩) an cap)) (hN : ∀ i, i < an → NodeAt w b (o + i * 12) (es i)) :
    Calls Yaed.prog 213 #[.pointer (some ⟨ps, 0, none⟩)] w fun r w' => r = .returned (.bool false) ∧ Below w.heap.size w w' := by
  have HES : Hid (∀ i, i < an → (es i).table = ⟨#[]⟩) := hes
  have HN : Hid (∀ i, i < an → NodeAt w b (o + i * 12) (es i)) := hN
  clear hes hN
  go_enter Yaed.func213, Yaed.ntmps213
  go_wp2_with fail
  clear h3 h18
  go_loopw [16] (fun c wr => ∃ k : Nat, k ≤ an ∧ c = .int .i64 k ∧ Hid (Below w.heap.size w wr)) (fun c _ => an - (intOf c).toNat)
  case atStart => exact ⟨0, Nat.zero_le _, rfl, Below.refl _ _⟩
  case round =>
    obtain ⟨k, hk, rfl, HB⟩ := hrel
    by_cases hkl : k < an
    · have h2 : (k : Int) < an := by omega
      obtain ⟨e, he⟩ : ∃ e, es k = e := ⟨_, rfl⟩
      have HR : Hid (wr.rangeAt b (o + k * 12) e.list) := by rw [← he]; exact ((HN.out k hkl).ext HB.out).range
      have HTB : Hid (e.table = ⟨#[]⟩) := by rw [← he]; exact HES.out k hkl
      obtain ⟨op, a1, a2, a3, v, man, q, name, table⟩ := e
      have htb : table = ⟨#[]⟩ := HTB.out
      subst htb
      clear he HTB
      have hsz := HB.out.size
      go_wp2_with (first | (refine wpList_load_mid rfl 150 _ rfl b (o + k * 12) rfl _ _ HR.out Yaed.underlying150 rfl size150 ?_) | (refine wpList_put (ty := 150) (g := wr.heap.size) rfl rfl rfl rfl size150 (by kernel_rfl) ⟨_, heap_new rfl, rfl⟩ ?_; intro w2 h2' k2 s2; have e11 : w2.cell? ⟨wr.heap.size, 11, none⟩ = some (.string ⟨#[]⟩) := (cell_of_row w2 _ 11 _ _ _ h2'); have HB2 : Hid (Below wr.heap.size wr w2) := (below_alloc _ _).trans (k2.below (fun k hk => by show k ≠ wr.heap.size; omega)); clear h2' k2 s2))
      go_roundw
      case rel => exact ⟨k + 1, by omega, by go_num, HB.out.trans (HB2.out.mono hsz)⟩
      case measure => simp [intOf]; omega
    · have h1 : ¬ (k : Int) < an := by omega
      go_wp2_with fail
      go_ret
      exact ⟨rfl, HB.out⟩
end Go.Proofs.YgdaegDoor
