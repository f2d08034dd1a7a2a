import Derived.Test.YgdaegDoorAggK
import Derived.Test.YgdaegDoorRootsSel
namespace Go.Proofs.YgdaegDoor
open Go.RowKit
set_option linter.unusedSimpArgs false
set_option linter.unusedVariables false
/-- How many of the first n nodes are aggregates. -/
def cntA (f : Nat → E) : Nat → Nat
  | 0 => 0
  | n + 1 => if (f n).op == 26 then cntA f n + 1 else cntA f n
theorem cntA_le (f : Nat → E) : ∀ n, cntA f n ≤ n
  | 0 => Nat.le_refl _
  | n + 1 => by have := cntA_le f n; unfold cntA; split <;> omega
set_option maxRecDepth 20000 in
set_option maxHeartbeats 1000000 in
theorem aggregates_any (b o an cap : Nat) (han : an ≤ 128) (es : Nat → E) (w : World) (hN : ∀ i, i < an → NodeAt w b (o + i * 12) (es i)) :
    Calls Yaed.prog 61 #[.slice (some ⟨b, o, none⟩) an cap] w fun r w' => r = .returned (.int .i64 (cntA es an)) ∧ w' = w := by
  have HN : Hid (∀ i, i < an → NodeAt w b (o + i * 12) (es i)) := hN
  obtain ⟨N, hNn⟩ : ∃ N, cntA es an = N := ⟨_, rfl⟩
  rw [hNn]
  have HNN : Hid (cntA es an = N) := hNn
  clear hN hNn
  go_enter Yaed.func61, Yaed.ntmps61
  go_wp2_with fail
  go_loopw [7, 3] (fun c cn wr => ∃ k : Nat, k ≤ an ∧ c = .int .i64 k ∧ ∃ m : Nat, cn = .int .i64 m ∧ m ≤ k ∧ Hid (m = cntA es k) ∧ Hid (wr = w)) (fun c _ _ => an - (intOf c).toNat)
  case atStart => exact ⟨0, Nat.zero_le _, rfl, 0, rfl, Nat.le_refl _, rfl, rfl⟩
  case round =>
    obtain ⟨k, hk, rfl, m, rfl, hmk, HM, HW⟩ := hrel
    by_cases hkn : k < an
    · have hkn' : (k : Int) < an := by omega
      have h0 := (HN.out k hkn).facts.1
      rw [← HW.out] at h0
      obtain ⟨z, hz⟩ : ∃ z, ((es k).op == 26) = z := ⟨_, rfl⟩
      have HZ : Hid (((es k).op == 26) = z) := hz
      obtain ⟨op, hop⟩ : ∃ op, (es k).op = op := ⟨_, rfl⟩
      rw [hop] at h0 hz
      clear hop
      cases z with
      | true =>
        have hw : IntKind.i64.wrap ((m : Int) + 1) = (m : Int) + 1 := IntWalk.i64_in _ (by omega)
        go_wp2_with fail
        go_roundw
        case rel => exact ⟨k + 1, by omega, by go_num, m + 1, by go_num, by omega, (show m + 1 = cntA es (k + 1) by unfold cntA; rw [if_pos HZ.out, HM.out]), HW⟩
        case measure => simp [intOf]; omega
      | false =>
        go_wp2_with fail
        go_roundw
        case rel => exact ⟨k + 1, by omega, by go_num, m, rfl, by omega, (show m = cntA es (k + 1) by unfold cntA; rw [if_neg (by rw [HZ.out]; simp)]; exact HM.out), HW⟩
        case measure => simp [intOf]; omega
    · obtain rfl : k = an := by omega
      go_wp2_with fail
      go_ret
      exact ⟨by rw [← HNN.out, HM.out]; rfl, HW.out⟩
set_option maxRecDepth 20000 in
set_option maxHeartbeats 1000000 in
theorem leftmost0 (b o an cap i : Nat) (hi : i < an) (han : an ≤ 128) (e : E) (hA : e.a = -1) (w : World) (hN : NodeAt w b (o + i * 12) e) :
    Calls Yaed.prog 123 #[.slice (some ⟨b, o, none⟩) an cap, .int .i16 i] w fun r w' => r = .returned (.int .i16 i) ∧ w' = w := by
  have h1 := hN.facts.2.1
  rw [hA] at h1
  have hi' : (i : Int) < an := by omega
  have hi0 : ¬ (i : Int) < 0 := by omega
  clear hN
  go_enter Yaed.func123, Yaed.ntmps123
  go_wp2_with fail
  refine wp_loop_rounds 1 ?_
  rw [rounds_succ]
  go_wp2_with fail
  go_ret
  exact ⟨rfl, rfl⟩
set_option maxRecDepth 20000 in
set_option maxHeartbeats 1000000 in
theorem leftmost1 (b o an cap i x : Nat) (hi : i < an) (hx : x < i) (han : an ≤ 128) (e e' : E) (hA : e.a = x) (hA' : e'.a = -1) (w : World) (hN : NodeAt w b (o + i * 12) e) (hN' : NodeAt w b (o + x * 12) e') :
    Calls Yaed.prog 123 #[.slice (some ⟨b, o, none⟩) an cap, .int .i16 i] w fun r w' => r = .returned (.int .i16 x) ∧ w' = w := by
  have h1 := hN.facts.2.1
  rw [hA] at h1
  have h2 := hN'.facts.2.1
  rw [hA'] at h2
  have hi' : (i : Int) < an := by omega
  have hi0 : ¬ (i : Int) < 0 := by omega
  have hx' : (x : Int) < an := by omega
  have hx0 : ¬ (x : Int) < 0 := by omega
  have hxi : (x : Int) < i := by omega
  clear hN hN'
  go_enter Yaed.func123, Yaed.ntmps123
  go_wp2_with fail
  refine wp_loop_rounds 2 ?_
  rw [rounds_succ]
  go_wp2_with fail
  rw [rounds_succ]
  go_wp2_with fail
  go_ret
  exact ⟨rfl, rfl⟩
/-- A column, count(*), or an aggregate over the column before it. -/
def AggNode (es : Nat → E) (i : Nat) : Prop := (∃ c, es i = colE c) ∨ (es i = aggE countS (-1)) ∨ (∃ nm x, x + 1 = i ∧ es i = aggE nm (x : Nat) ∧ ∃ c, es x = colE c)
/-- Where the subtree of root j begins. -/
def fstR (rts : List Nat) : Nat → Nat
  | 0 => 0
  | j + 1 => rts.getD j 0 + 1
theorem bool_get {w : World} {ok : Nat → Prop} {gv : Value} {g : List Bool} (h : Arr w ok gv 1 (boolL g)) : ∃ a cap, gv = .slice a g.length cap ∧ ∀ j, j < g.length → ∃ b o, a = some ⟨b, o, none⟩ ∧ ok b ∧ b < w.heap.size ∧ w.cell? ⟨b, o + j, none⟩ = some (.bool (g.getD j false)) := by
  obtain ⟨a, cap, h1, _, h2⟩ := h
  have hl : (boolL g).length = g.length := by simp [boolL]
  rw [hl] at h1
  refine ⟨a, cap, h1, fun j hj => ?_⟩
  obtain ⟨b, o, h3, h4, h5, h6⟩ := h2 j (by omega)
  refine ⟨b, o, h3, h4, h5, ?_⟩
  have := h6 0 (by omega)
  simpa [boolL, List.getD_eq_getElem?_getD, hj] using this
set_option maxRecDepth 20000 in
set_option maxHeartbeats 4000000 in
theorem aggsRight_sel (b o an cap : Nat) (han : an ≤ 128) (es : Nat → E) (hes : ∀ i, i < an → AggNode es i) (hcnt : cntA es an ≤ 8) (rts : List Nat) (aoks : List Bool) (hla : aoks.length = rts.length) (hrl : rts.length ≤ 128) (hrt : ∀ j, j < rts.length → rts.getD j 0 < an ∧ fstR rts j ≤ rts.getD j 0) (hA : ∀ j, j < rts.length → ∀ i, fstR rts j ≤ i → i ≤ rts.getD j 0 → (es i).op = 26 → aoks.getD j false = true)
    (w : World) (okr oka : Nat → Prop) (rv av : Value) (hrv : Arr w okr rv 1 (i16L rts)) (hav : Arr w oka av 1 (boolL aoks)) (hN : ∀ i, i < an → NodeAt w b (o + i * 12) (es i)) :
    Calls Yaed.prog 63 #[.slice (some ⟨b, o, none⟩) an cap, rv, av] w fun r w' => r = .returned (.bool true) ∧ Below w.heap.size w w' := by
  obtain ⟨ra, rc, rfl, hrc⟩ := i16_get hrv
  obtain ⟨aa, ac, rfl, hac⟩ := bool_get hav
  have HN : Hid (∀ i, i < an → NodeAt w b (o + i * 12) (es i)) := hN
  have HES : Hid (∀ i, i < an → AggNode es i) := hes
  have HRT : Hid (∀ j, j < rts.length → rts.getD j 0 < an ∧ fstR rts j ≤ rts.getD j 0) := hrt
  have HA : Hid (∀ j, j < rts.length → ∀ i, fstR rts j ≤ i → i ≤ rts.getD j 0 → (es i).op = 26 → aoks.getD j false = true) := hA
  have HRC : Hid (∀ j (hj : j < rts.length), ∃ b o, ra = some ⟨b, o, none⟩ ∧ okr b ∧ b < w.heap.size ∧ w.cell? ⟨b, o + j, none⟩ = some (.int .i16 (rts[j] : Nat))) := hrc
  have HAC : Hid (∀ j, j < aoks.length → ∃ b o, aa = some ⟨b, o, none⟩ ∧ oka b ∧ b < w.heap.size ∧ w.cell? ⟨b, o + j, none⟩ = some (.bool (aoks.getD j false))) := hac
  have HLA : Hid (aoks.length = rts.length) := hla
  rw [hla]
  obtain ⟨cnt, hcn⟩ : ∃ cnt, cntA es an = cnt := ⟨_, rfl⟩
  rw [hcn] at hcnt
  have HCN : Hid (cntA es an = cnt) := hcn
  have hc8 : ¬ (8 : Int) < cnt := by omega
  clear hN hes hrt hA hrc hac hrv hav hla hcn
  go_enter Yaed.func63, Yaed.ntmps63
  go_wp2_with fail
  refine (aggregates_any b o an cap han es w HN.out).mono ?_
  rintro e w1 ⟨rfl, rfl⟩
  rw [HCN.out]
  go_wp2_with fail
  go_loopw [18, 7] (fun c cf wr => ∃ j : Nat, j ≤ rts.length ∧ c = .int .i64 j ∧ ∃ f : Nat, cf = .int .i16 f ∧ f ≤ 128 ∧ Hid (f = fstR rts j) ∧ Hid (wr = w1)) (fun c _ _ => rts.length - (intOf c).toNat)
  case atStart => exact ⟨0, Nat.zero_le _, rfl, 0, rfl, by omega, rfl, rfl⟩
  case round =>
    obtain ⟨j, hj, rfl, f, rfl, hf8, HF, HW⟩ := hrel
    by_cases hjn : j < rts.length
    · have hjn' : (j : Int) < rts.length := by omega
      obtain ⟨rb, ro, rfl, _, hrb, hrcell⟩ := HRC.out j hjn
      obtain ⟨ab, ao, haa, _, hab, hacell⟩ := HAC.out j (by rw [HLA.out]; exact hjn)
      obtain ⟨r, hr⟩ : ∃ r : Nat, rts[j] = r := ⟨_, rfl⟩
      rw [hr] at hrcell
      have hrd : rts.getD j 0 = r := by rw [getD_of_lt _ _ _ hjn]; exact hr
      obtain ⟨hran, hfr⟩ := HRT.out j hjn
      have HAJ : Hid (∀ i, f ≤ i → i ≤ r → (es i).op = 26 → aoks.getD j false = true) := fun i h1 h2 => HA.out j hjn i (by rw [← HF.out]; exact h1) (by rw [hrd]; exact h2)
      rw [hrd] at hran hfr
      rw [← HF.out] at hfr
      have HF' : Hid (r + 1 = fstR rts (j + 1)) := by
        have : fstR rts (j + 1) = rts.getD j 0 + 1 := rfl
        rw [this, hrd]; exact rfl
      subst haa
      have er : wr.cell? ⟨rb, ro + j, none⟩ = some (.int .i16 r) := by rw [HW.out]; exact hrcell
      obtain ⟨aok, hao⟩ : ∃ aok, aoks.getD j false = aok := ⟨_, rfl⟩
      rw [hao] at hacell HAJ
      have HAB : Hid (w1.cell? ⟨ab, ao + j, none⟩ = some (.bool aok)) := hacell
      clear hrcell hacell hr hrd hao HF
      go_wp2_with fail
      clear er
      generalize hwb : wr = wb at *
      clear hwb
      go_loopw [10] (fun ci wr => ∃ i : Nat, f ≤ i ∧ i ≤ r + 1 ∧ ci = .int .i16 i ∧ Hid (wr = w1)) (fun ci _ => r + 1 - (intOf ci).toNat)
      case atStart => exact ⟨f, Nat.le_refl _, by omega, rfl, HW⟩
      case round =>
        obtain ⟨i, hfi, hir, rfl, HWi⟩ := hrel
        clear HW
        by_cases hi : i ≤ r
        · have hi' : (i : Int) ≤ r := by omega
          have hian : (i : Int) < an := by omega
          have hi0 : ¬ (i : Int) < 0 := by omega
          have hwi : IntKind.i16.wrap ((i : Int) + 1) = (i : Int) + 1 := IntWalk.i16_in _ (by omega)
          have hnode := HN.out i (by omega)
          rcases HES.out i (by omega) with ⟨c, he⟩ | he | ⟨nm, x, hxi, he, c, hex⟩
          · rw [he] at hnode
            have h0 := hnode.facts.1
            simp only [colE] at h0
            rw [← HWi.out] at h0
            clear hnode he
            go_wp2_with fail
            go_roundw
            case rel => exact ⟨i + 1, by omega, by omega, by go_num, HWi⟩
            case measure => simp [intOf]; omega
          · have haok : aok = true := HAJ.out i hfi hi (by rw [he]; rfl)
            subst haok
            rw [he] at hnode
            have HND : Hid (NodeAt w1 b (o + i * 12) (aggE countS (-1))) := hnode
            obtain ⟨h0, h1, _, _, _, _, _, _, _, _, hn, _⟩ := hnode.facts
            simp only [aggE] at h0 h1 hn
            have eab := HAB.out
            rw [← HWi.out] at h0 h1 hn eab
            clear hnode he
            go_wp2_with fail
            refine (leftmost0 b o an cap i (by omega) han (aggE countS (-1)) rfl _ (by rw [HWi.out]; exact HND.out)).mono ?_
            rintro e w5 ⟨rfl, hw5⟩
            have HW5 : Hid (w5 = w1) := by rw [hw5]; exact HWi.out
            clear hw5 h0 h1 hn eab
            have hii : ¬ (i : Int) < i := by omega
            go_wp2_with fail
            refine wp_loop_rounds 1 ?_
            rw [rounds_succ]
            go_wp2_with fail
            go_roundw
            case rel => exact ⟨i + 1, by omega, by omega, by go_num, HW5⟩
            case measure => simp [intOf]; omega
          · have haok : aok = true := HAJ.out i hfi hi (by rw [he]; rfl)
            subst haok
            rw [he] at hnode
            have HND : Hid (NodeAt w1 b (o + i * 12) (aggE nm x)) := hnode
            have hnx := HN.out x (by omega)
            rw [hex] at hnx
            have HNX : Hid (NodeAt w1 b (o + x * 12) (colE c)) := hnx
            obtain ⟨h0, h1, _⟩ := hnode.facts
            simp only [aggE] at h0 h1
            have eab := HAB.out
            rw [← HWi.out] at h0 h1 eab
            have hx0 : ¬ (x : Int) < 0 := by omega
            clear hnode hnx he hex
            go_wp2_with fail
            refine (leftmost1 b o an cap i x (by omega) (by omega) han (aggE nm x) (colE c) rfl rfl _ (by rw [HWi.out]; exact HND.out) (by rw [HWi.out]; exact HNX.out)).mono ?_
            rintro e w5 ⟨rfl, hw5⟩
            have HW5 : Hid (w5 = w1) := by rw [hw5]; exact HWi.out
            clear hw5 h0 h1 eab
            have hxi1 : (x : Int) < i := by omega
            have hxan : (x : Int) < an := by omega
            have hwx : IntKind.i16.wrap ((x : Int) + 1) = (i : Int) := by rw [show (x : Int) + 1 = i by omega]; exact IntWalk.i16_in _ (by omega)
            have hii : ¬ (i : Int) < i := by omega
            have k0 := HNX.out.facts.1
            simp only [colE] at k0
            rw [← HW5.out] at k0
            go_wp2_with fail
            refine wp_loop_rounds 2 ?_
            rw [rounds_succ]
            go_wp2_with fail
            rw [rounds_succ]
            go_wp2_with fail
            go_roundw
            case rel => exact ⟨i + 1, by omega, by omega, by go_num, HW5⟩
            case measure => simp [intOf]; omega
        · have hi' : ¬ (i : Int) ≤ r := by omega
          have hwr : IntKind.i16.wrap ((r : Int) + 1) = (r : Int) + 1 := IntWalk.i16_in _ (by omega)
          go_wp2_with fail
          go_roundw
          case rel => exact ⟨j + 1, by omega, by go_num, r + 1, by go_num, by omega, HF', HWi⟩
          case measure => simp [intOf]; omega
    · obtain rfl : j = rts.length := by omega
      go_wp2_with fail
      go_ret
      exact ⟨rfl, by rw [HW.out]; exact Below.refl _ _⟩
end Go.Proofs.YgdaegDoor
