import Derived.Test.YgdaegDoorKids
import Derived.Test.YgdaegDoorNew
import Derived.Deep.Cut
namespace Go.Proofs.YgdaegDoor
open Go.RowKit
set_option linter.unusedSimpArgs false
set_option linter.unusedVariables false

def i16L (l : List Nat) : List (List Value) := l.map fun (n : Nat) => [Value.int .i16 (n : Int)]
def stOf (ks : Nat → List Nat) (i : Nat) : Nat := match ks i with | [] => i | x :: _ => x
/-- The roots tile the arena from 'next' on; where the tiling ends. -/
def tile (ks : Nat → List Nat) (n : Nat) : Nat → List Nat → Option Nat
  | next, [] => some next
  | next, r :: rs => if r < n ∧ stOf ks r = next then tile ks n (r + 1) rs else none

/-- The three arrays of checkArena. -/
structure CA (B : Nat) (w wr : World) (sN cN : Nat) (ks : Nat → List Nat) : Prop where
  bel : Below B w wr
  s : ∃ S, wr.heap[B]? = some (.cells S 181 (0, 0)) ∧ S.size = 128 ∧ ∀ j, j < sN → S[j]? = some (.int .i16 (stOf ks j : Nat))
  h : ∃ H, wr.heap[B + 1]? = some (.cells H 181 (0, 0)) ∧ H.size = 128 ∧ ∀ j, j < sN → ∃ hv : Int, H[j]? = some (.int .i16 hv) ∧ 1 ≤ hv ∧ hv ≤ 2 ∧ (ks j = [] → hv = 1)
  c : ∃ C, wr.heap[B + 2]? = some (.cells C 181 (0, 0)) ∧ C.size = 128 ∧ ∀ j, j < cN → C[j]? = some (.int .i16 (-1))

section
variable {B : Nat} {w wr wr' : World} {sN cN : Nat} {ks : Nat → List Nat}
theorem CA.lt (h : CA B w wr sN cN ks) : B + 2 < wr.heap.size := by obtain ⟨C, hC, _⟩ := h.c; exact block_lt hC
theorem CA.ext (h : CA B w wr sN cN ks) (hb : Below wr.heap.size wr wr') : CA B w wr' sN cN ks := by
  have hl := h.lt
  obtain ⟨S, s1, s2⟩ := h.s
  obtain ⟨H, h1, h2⟩ := h.h
  obtain ⟨C, c1, c2⟩ := h.c
  exact ⟨h.bel.trans (hb.mono (by omega)), ⟨S, (hb.block _ (by omega)).trans s1, s2⟩, ⟨H, (hb.block _ (by omega)).trans h1, h2⟩, ⟨C, (hb.block _ (by omega)).trans c1, c2⟩⟩
theorem CA.setC (h : CA B w wr sN cN ks) (hc : cN < 128) : CA B w (wr.setCell ⟨B + 2, cN, none⟩ (.int .i16 (-1))) sN (cN + 1) ks := by
  obtain ⟨S, s1, s2⟩ := h.s
  obtain ⟨H, h1, h2⟩ := h.h
  obtain ⟨C, c1, c2, c3⟩ := h.c
  refine ⟨h.bel.setCell (by show B ≤ B + 2; omega) _, ⟨S, (heap_set_ne (by omega) _).trans s1, s2⟩, ⟨H, (heap_set_ne (by omega) _).trans h1, h2⟩, ⟨_, heap_set c1 _, by simpa using c2, fun j hj => ?_⟩⟩
  by_cases e : j = cN
  · subst e; rw [Array.getElem?_setIfInBounds_self_of_lt (by omega)]
  · rw [Array.getElem?_setIfInBounds_ne (Ne.symm e)]; exact c3 j (by omega)
theorem CA.setSH (h : CA B w wr sN cN ks) (hi : sN < 128) (st hv : Int) (hst : st = (stOf ks sN : Nat)) (h1 : 1 ≤ hv) (h2 : hv ≤ 2) (h3 : ks sN = [] → hv = 1) :
    CA B w ((wr.setCell ⟨B, sN, none⟩ (.int .i16 st)).setCell ⟨B + 1, sN, none⟩ (.int .i16 hv)) (sN + 1) cN ks := by
  subst hst
  obtain ⟨S, s1, s2, s3⟩ := h.s
  obtain ⟨H, g1, g2, g3⟩ := h.h
  obtain ⟨C, c1, c2⟩ := h.c
  refine ⟨(h.bel.setCell (Nat.le_refl _) _).setCell (by show B ≤ B + 1; omega) _, ⟨_, (heap_set_ne (by omega) _).trans (heap_set s1 _), by simpa using s2, fun j hj => ?_⟩,
    ⟨_, heap_set ((heap_set_ne (by omega) _).trans g1) _, by simpa using g2, fun j hj => ?_⟩, ⟨C, (heap_set_ne (by omega) _).trans ((heap_set_ne (by omega) _).trans c1), c2⟩⟩
  · by_cases e : j = sN
    · subst e; rw [Array.getElem?_setIfInBounds_self_of_lt (by omega)]
    · rw [Array.getElem?_setIfInBounds_ne (Ne.symm e)]; exact s3 j (by omega)
  · by_cases e : j = sN
    · subst e; rw [Array.getElem?_setIfInBounds_self_of_lt (by omega)]; exact ⟨hv, rfl, h1, h2, h3⟩
    · rw [Array.getElem?_setIfInBounds_ne (Ne.symm e)]; exact g3 j (by omega)
theorem CA.putS (h : CA B w wr sN cN ks) {j : Nat} (hj : sN ≤ j) (u : Value) : CA B w (wr.setCell ⟨B, j, none⟩ u) sN cN ks := by
  obtain ⟨S, s1, s2, s3⟩ := h.s
  obtain ⟨H, g1, g2, g3⟩ := h.h
  obtain ⟨C, c1, c2⟩ := h.c
  exact ⟨h.bel.setCell (Nat.le_refl _) _, ⟨_, heap_set s1 _, by simpa using s2, fun k hk => by rw [Array.getElem?_setIfInBounds_ne (by omega)]; exact s3 k hk⟩,
    ⟨H, (heap_set_ne (by omega) _).trans g1, g2, g3⟩, ⟨C, (heap_set_ne (by omega) _).trans c1, c2⟩⟩
theorem CA.putH (h : CA B w wr sN cN ks) {j : Nat} (hj : sN ≤ j) (u : Value) : CA B w (wr.setCell ⟨B + 1, j, none⟩ u) sN cN ks := by
  obtain ⟨S, s1, s2, s3⟩ := h.s
  obtain ⟨H, g1, g2, g3⟩ := h.h
  obtain ⟨C, c1, c2⟩ := h.c
  exact ⟨h.bel.setCell (by show B ≤ B + 1; omega) _, ⟨S, (heap_set_ne (by omega) _).trans s1, s2, s3⟩,
    ⟨_, heap_set g1 _, by simpa using g2, fun k hk => by rw [Array.getElem?_setIfInBounds_ne (by omega)]; exact g3 k hk⟩, ⟨C, (heap_set_ne (by omega) _).trans c1, c2⟩⟩
theorem CA.bump (h : CA B w wr sN cN ks) (hv : Int) (hs : wr.cell? ⟨B, sN, none⟩ = some (.int .i16 (stOf ks sN : Nat))) (hh : wr.cell? ⟨B + 1, sN, none⟩ = some (.int .i16 hv)) (h1 : 1 ≤ hv) (h2 : hv ≤ 2) (h3 : ks sN = [] → hv = 1) :
    CA B w wr (sN + 1) cN ks := by
  obtain ⟨S, s1, s2, s3⟩ := h.s
  obtain ⟨H, g1, g2, g3⟩ := h.h
  refine ⟨h.bel, ⟨S, s1, s2, fun j hj => ?_⟩, ⟨H, g1, g2, fun j hj => ?_⟩, h.c⟩
  · by_cases e : j = sN
    · subst e; rw [cell_of_row wr B j S 181 _ s1] at hs; exact hs
    · exact s3 j (by omega)
  · by_cases e : j = sN
    · subst e; rw [cell_of_row wr (B + 1) j H 181 _ g1] at hh; exact ⟨hv, hh, h1, h2, h3⟩
    · exact g3 j (by omega)
theorem CA.cellS (h : CA B w wr sN cN ks) (j : Nat) (hj : j < 128) : ∃ u, wr.cell? ⟨B, j, none⟩ = some u ∧ wr.frozen? ⟨B, j, none⟩ = false ∧ (j < sN → u = .int .i16 (stOf ks j : Nat)) := by
  obtain ⟨S, s1, s2, s3⟩ := h.s
  refine ⟨S[j]'(by omega), by rw [cell_of_row wr B j S 181 _ s1]; simp [s2, hj], by simp [World.frozen?, s1], fun hl => ?_⟩
  have := s3 j hl
  rw [Array.getElem?_eq_getElem (by omega)] at this
  exact Option.some.inj this
theorem CA.cellH (h : CA B w wr sN cN ks) (j : Nat) (hj : j < 128) : ∃ u, wr.cell? ⟨B + 1, j, none⟩ = some u ∧ wr.frozen? ⟨B + 1, j, none⟩ = false ∧ (j < sN → ∃ hv : Int, u = .int .i16 hv ∧ 1 ≤ hv ∧ hv ≤ 2 ∧ (ks j = [] → hv = 1)) := by
  obtain ⟨S, s1, s2, s3⟩ := h.h
  refine ⟨S[j]'(by omega), by rw [cell_of_row wr (B + 1) j S 181 _ s1]; simp [s2, hj], by simp [World.frozen?, s1], fun hl => ?_⟩
  obtain ⟨hv, h1, h2⟩ := s3 j hl
  rw [Array.getElem?_eq_getElem (by omega)] at h1
  exact ⟨hv, Option.some.inj h1, h2⟩
theorem CA.cellC (h : CA B w wr sN cN ks) (j : Nat) (hj : j < 128) : ∃ u, wr.cell? ⟨B + 2, j, none⟩ = some u ∧ wr.frozen? ⟨B + 2, j, none⟩ = false ∧ (j < cN → u = .int .i16 (-1)) := by
  obtain ⟨S, s1, s2, s3⟩ := h.c
  refine ⟨S[j]'(by omega), by rw [cell_of_row wr (B + 2) j S 181 _ s1]; simp [s2, hj], by simp [World.frozen?, s1], fun hl => ?_⟩
  have := s3 j hl
  rw [Array.getElem?_eq_getElem (by omega)] at this
  exact Option.some.inj this
end

set_option maxRecDepth 20000 in
set_option maxHeartbeats 4000000 in
theorem checkArena_any (es : List E) (hl : es.length ≤ 128) (ks : Nat → List Nat) (rts : List Nat) (w : World) (ok ok' : Nat → Prop) (av rv : Value)
    (hav : Arr w ok av 12 (es.map E.list)) (hrv : Arr w ok' rv 1 (i16L rts))
    (hNR : ∀ i, i < es.length → ∀ b off W, NodeAt W b off (es.getD i (leafE 0 V0)) → Calls Yaed.prog 120 #[.pointer (some ⟨b, off, none⟩)] W fun r w' => r = .returned (.bool true) ∧ Below W.heap.size W w')
    (hKD : ∀ i, i < es.length → ∀ b o cap W, NodeAt W b (o + i * 12) (es.getD i (leafE 0 V0)) → Calls Yaed.prog 121 #[.slice (some ⟨b, o, none⟩) es.length cap, .int .i64 i] W fun r w' =>
      ∃ kv, r = .returned (.tuple #[kv, .bool true]) ∧ Arr w' (fun b => W.heap.size ≤ b) kv 1 (i16L (ks i)) ∧ Below W.heap.size W w')
    (hc : ∀ i, i < es.length → (es.getD i (leafE 0 V0)).c = -1 ∧ ((es.getD i (leafE 0 V0)).op != 6) = true)
    (hks : ∀ i, i < es.length → ks i = [] ∨ (∃ x, ks i = [x] ∧ x + 1 = i ∧ ks x = []) ∨ (∃ x y, ks i = [x, y] ∧ x + 1 = y ∧ y + 1 = i ∧ ks x = [] ∧ ks y = []))
    (ht : tile ks es.length 0 rts = some es.length) (hrl : rts.length ≤ 128) :
    Calls Yaed.prog 62 #[av, rv] w fun r w' => r = .returned (.bool true) ∧ Below w.heap.size w w' := by
  obtain ⟨aa, acap, rfl, hnode⟩ := hav.node
  obtain ⟨ra, rcap, rfl, _, hroot⟩ := hrv
  have hrl' : (i16L rts).length = rts.length := by simp [i16L]
  simp only [hrl'] at *
  have HNODE : Hid (∀ i, i < es.length → ∃ b o, aa = some ⟨b, o, none⟩ ∧ ok b ∧ NodeAt w b (o + i * 12) (es.getD i (leafE 0 V0))) := hnode
  have HROOT : Hid _ := hroot
  have HNR : Hid _ := hNR
  have HKD : Hid _ := hKD
  have HC : Hid _ := hc
  have HKS : Hid _ := hks
  have HT : Hid (tile ks es.length 0 rts = some es.length) := ht
  clear hav hnode hroot hNR hKD hc hks ht
  go_enter Yaed.func62, Yaed.ntmps62
  go_wp2_with (refine wpList_new rfl rfl info181 ?_)
  intro w1 S hS hSs hb1 hs1
  go_wp2_with (refine wpList_new rfl rfl info181 ?_)
  intro w2 H hH hHs hb2 hs2
  go_wp2_with (refine wpList_new rfl rfl info181 ?_)
  intro w3 C hCC hCs hb3 hs3
  have HCA : Hid (CA w.heap.size w w3 0 0 ks) := by
    refine ⟨hb1.trans ((hb2.mono (by omega)).trans (hb3.mono (by omega))), ⟨S, ?_, hSs, fun j hj => by omega⟩, ⟨H, ?_, hHs, fun j hj => by omega⟩, ⟨C, ?_, hCs, fun j hj => by omega⟩⟩
    · rw [hb3.block _ (by omega), hb2.block _ (by omega)]; exact hS
    · rw [hb3.block _ (by omega)]; exact hH
    · exact hCC
  rw [show w.heap.size + 1 + 1 = w.heap.size + 2 from rfl]
  clear hS hSs hb1 hH hHs hb2 hCC hCs hb3 hs1 hs2 hs3
  go_wp2_with fail
  go_loopw [22] (fun c wr => ∃ k : Nat, k ≤ es.length ∧ c = .int .i64 k ∧ Hid (CA w.heap.size w wr 0 k ks)) (fun c _ => es.length - (intOf c).toNat)
  case atStart => exact ⟨0, Nat.zero_le _, rfl, HCA⟩
  case round =>
    obtain ⟨k, hk, rfl, HI⟩ := hrel
    by_cases hkn : k < es.length
    · obtain ⟨u, hu1, hu2, _⟩ := HI.out.cellC k (by omega)
      go_wp2_with fail
      go_roundw
      case rel => exact ⟨k + 1, by omega, by go_num, HI.out.setC (by omega)⟩
      case measure => simp [intOf]; omega
    · have ek : k = es.length := by omega
      subst ek
      go_wp2_with fail
      go_loopw [29] (fun c wr => ∃ k : Nat, k ≤ es.length ∧ c = .int .i64 k ∧ Hid (CA w.heap.size w wr k es.length ks)) (fun c _ => es.length - (intOf c).toNat)
      case atStart => exact ⟨0, Nat.zero_le _, rfl, HI⟩
      case round =>
        clear HI HCA
        obtain ⟨i, hi, rfl, HI⟩ := hrel
        by_cases hin : i < es.length
        · obtain ⟨b, o, rfl, _, hN⟩ := HNODE.out i hin
          obtain ⟨ei, hei⟩ : ∃ ei, es.getD i (leafE 0 V0) = ei := ⟨_, rfl⟩
          have HEI : Hid (es.getD i (leafE 0 V0) = ei) := hei
          rw [hei] at hN
          have hop := (HC.out i hin).2
          rw [hei] at hop
          clear hei
          have HN0 : Hid (NodeAt wr b (o + i * 12) ei) := hN.ext HI.out.bel
          have HNW : Hid (NodeAt w b (o + i * 12) ei) := hN
          clear hN
          go_wp2_with fail
          refine (HNR.out i hin _ _ _ (by rw [HEI.out]; exact HN0.out)).mono ?_
          rintro e w1 ⟨rfl, hb1⟩
          have HI1 : Hid (CA w.heap.size w w1 i es.length ks) := HI.out.ext hb1
          have HN1 : Hid (NodeAt w1 b (o + i * 12) ei) := HN0.out.ext hb1
          clear hb1 HI HN0
          go_wp2_with fail
          refine (HKD.out i hin _ _ _ _ (by rw [HEI.out]; exact HN1.out)).mono ?_
          rintro e w2 ⟨kv, rfl, hkv, hb2⟩
          have HI2 : Hid (CA w.heap.size w w2 i es.length ks) := HI1.out.ext hb2
          have HN2 : Hid (NodeAt w2 b (o + i * 12) ei) := HN1.out.ext hb2
          have hsz2 := HI1.out.lt
          obtain ⟨ka, kcap, rfl, _, hkk⟩ := hkv
          have hkl : (i16L (ks i)).length = (ks i).length := by simp [i16L]
          rw [hkl]
          simp only [hkl] at hkk
          have HKK : Hid _ := hkk
          clear hkk hkl hb2 HI1 HN1
          obtain ⟨us, hus1, hus2, _⟩ := HI2.out.cellS i (by omega)
          obtain ⟨uh, huh1, huh2, _⟩ := HI2.out.cellH i (by omega)
          rcases HKS.out i hin with hk0 | ⟨x, hk1, hxi, hx0⟩ | ⟨x, y, hk2, hxy, hyi, hx0, hy0⟩
          · have HX : Hid (CA w.heap.size w ((w2.setCell ⟨w.heap.size, i, none⟩ (.int .i16 i)).setCell ⟨w.heap.size + 1, i, none⟩ (.int .i16 1)) (i + 1) es.length ks) :=
              HI2.out.setSH (by omega) i 1 (by simp [stOf, hk0]) (by omega) (by omega) (fun _ => rfl)
            have HK0 : Hid (ks i = []) := hk0
            rw [hk0, List.length_nil]
            clear hk0
            go_wp2_with (go_at_call 122; refine (callRight_any _ hop _ _ _ _ HN2.out).mono ?_; rintro e w3 ⟨rfl, rfl⟩)
            refine wp_loop_rounds 1 ?_
            rw [rounds_succ]
            go_wp2_with fail
            go_roundw
            case rel => exact ⟨i + 1, by omega, by go_num, HX⟩
            case measure => simp [intOf]; omega
          · have hl1 : (ks i).length = 1 := by rw [hk1]; rfl
            obtain ⟨g, go, rfl, hg1, hg2, hgc0⟩ := HKK.out 0 (by omega)
            have hc0 : w2.cell? ⟨g, go, none⟩ = some (.int .i16 x) := by have := hgc0 0 (by omega); rw [hk1] at this; simpa [i16L] using this
            have hn1 : ¬ g = w.heap.size := by omega
            have hn2 : ¬ g = w.heap.size + 1 := by omega
            have hn1' : ¬ w.heap.size = g := by omega
            have hn2' : ¬ w.heap.size + 1 = g := by omega
            obtain ⟨ux, hux1, hux2, hux3⟩ := HI2.out.cellS x (by omega)
            have hux : w2.cell? ⟨w.heap.size, x, none⟩ = some (.int .i16 x) := by rw [hux1, hux3 (by omega)]; simp [stOf, hx0]
            have hxi : ¬ x = i := by omega
            have hxi' : ¬ i = x := by omega
            have HK2 : Hid (ks i = [x]) := hk1
            rw [hl1]
            clear hux1 hux2 hux3 hgc0 hk1 hl1 HKK
            go_wp2_with (go_at_call 122; refine (callRight_any _ hop _ _ _ _ HN2.out).mono ?_; rintro e w3 ⟨rfl, rfl⟩)
            generalize hw5 : World.setCell _ _ _ = w5
            have HCA5 : Hid (CA w.heap.size w w5 i es.length ks) := by rw [← hw5]; exact ((HI2.out.putS (Nat.le_refl _) _).putH (Nat.le_refl _) _).putS (Nat.le_refl _) _
            obtain ⟨vx, hvx1, _, hvx3⟩ := HCA5.out.cellH x (by omega)
            obtain ⟨fi, hfi1, hfi2, _⟩ := HCA5.out.cellH i (by omega)
            have m1 : w5.cell? ⟨w.heap.size, i, none⟩ = some (.int .i16 x) := by rw [← hw5]; simp [go_sem, hus1, huh1]
            have m2 : w5.cell? ⟨w.heap.size + 1, i, none⟩ = some (.int .i16 1) := by rw [← hw5]; simp [go_sem, hus1, huh1]
            have m3 : w5.cell? ⟨g, go, none⟩ = some (.int .i16 x) := by rw [← hw5]; simp [go_sem, hc0, hn1, hn2, hn1', hn2']
            have m6 : w5.cell? ⟨w.heap.size + 1, x, none⟩ = some (.int .i16 1) := by obtain ⟨hv, e1, _, _, e2⟩ := hvx3 (by omega); rw [hvx1, e1, e2 hx0]
            have m8 := (HNW.out.ext HCA5.out.bel).facts.1
            have hi128 : (i : Int) < 128 := by omega
            have hx128 : (x : Int) < 128 := by omega
            have hi0' : (0 : Int) ≤ i := by omega
            have hx0' : (0 : Int) ≤ x := by omega
            have hopf : (ei.op == 6) = false := by simpa using hop
            clear hw5 hvx1 hvx3 hfi1 hus1 hus2 huh1 huh2 hux hc0 HI2 HN2 hop
            refine wp_loop_rounds 2 ?_
            rw [rounds_succ]
            go_wp2_with fail
            refine wp_region_can (l := [_, _, _, _, _, _, _, _, _, _, _, _, _]) [(true, 0), (true, 1), (true, 2), (true, 3), (true, 4), (true, 5), (true, 6), (true, 7), (true, 8), (true, 9), (true, 10), (true, 11), (true, 12)] (fun W => W.cell? ⟨w.heap.size, i, none⟩ = some (.int .i16 x) ∧ W.cell? ⟨w.heap.size + 1, i, none⟩ = some (.int .i16 1) ∧ W.cell? ⟨g, go, none⟩ = some (.int .i16 x) ∧ W.cell? ⟨w.heap.size + 1, x, none⟩ = some (.int .i16 1)) (by kernel_rfl) (by kernel_rfl) ⟨m1, m2, m3, m6⟩ ?_
            repeat (first | ((first | refine wpCan_q (v := ?_) rfl rfl rfl ?_ ?_ | refine wpCan_qg (v := ?_) rfl rfl (by rfl) ?_ ?_); rotate_left; (focus (rintro W ⟨q1, q2, q3, q4⟩; go_simp; first | done | exact rfl)); simp only [Act.put, List.setIfInBounds_toArray, List.set_cons_zero, List.set_cons_succ]) | (refine wpCan_skip rfl rfl (by rfl) ?_; simp only [Act.put, List.setIfInBounds_toArray, List.set_cons_zero, List.set_cons_succ]))
            refine wpCan_nil ?_
            go_wp2_with fail
            refine wp_region_can (l := [_, _, _, _, _, _, _, _, _]) [(true, 0), (true, 1), (true, 2), (true, 3), (true, 4), (true, 5), (true, 6), (true, 7), (true, 8)] (fun W => W.cell? ⟨w.heap.size, i, none⟩ = some (.int .i16 x) ∧ W.cell? ⟨w.heap.size + 1, i, none⟩ = some (.int .i16 1) ∧ W.cell? ⟨g, go, none⟩ = some (.int .i16 x) ∧ W.cell? ⟨w.heap.size + 1, x, none⟩ = some (.int .i16 1)) (by kernel_rfl) (by kernel_rfl) ⟨m1, m2, m3, m6⟩ ?_
            repeat ((first | refine wpCan_q (v := ?_) rfl rfl rfl ?_ ?_ | refine wpCan_qg (v := ?_) rfl rfl (by rfl) ?_ ?_); rotate_left; (focus (rintro W ⟨q1, q2, q3, q4⟩; go_simp; first | done | exact rfl)); simp only [Act.put, List.setIfInBounds_toArray, List.set_cons_zero, List.set_cons_succ])
            refine wpCan_nil ?_
            go_wp2_with fail
            rw [rounds_succ]
            go_wp2_with fail
            go_roundw
            case rel =>
              refine ⟨i + 1, by omega, by go_num, ?_⟩
              have hk := (HCA5.out.putH (Nat.le_refl _) (.int .i16 2)).bump 2 (by simp [go_sem, m1, stOf, HK2.out]) (by simp [go_sem, m2]) (by omega) (by omega) (fun e => by rw [HK2.out] at e; cases e)
              exact hk.ext ((Below.refl _ _).drew.drew)
            case measure => simp [intOf]; omega
          · have hl2 : (ks i).length = 2 := by rw [hk2]; rfl
            obtain ⟨g, go, rfl, hg1, hg2, hgc0⟩ := HKK.out 0 (by omega)
            obtain ⟨g', go', he, _, _, hgc1⟩ := HKK.out 1 (by omega)
            obtain ⟨rfl, rfl⟩ : g = g' ∧ go = go' := by simpa using he
            have hc0 : w2.cell? ⟨g, go, none⟩ = some (.int .i16 x) := by have := hgc0 0 (by omega); rw [hk2] at this; simpa [i16L] using this
            have hc1 : w2.cell? ⟨g, go + 1, none⟩ = some (.int .i16 y) := by have := hgc1 0 (by omega); rw [hk2] at this; simpa [i16L] using this
            have hn1 : ¬ g = w.heap.size := by omega
            have hn2 : ¬ g = w.heap.size + 1 := by omega
            have hn1' : ¬ w.heap.size = g := by omega
            have hn2' : ¬ w.heap.size + 1 = g := by omega
            obtain ⟨ux, hux1, hux2, hux3⟩ := HI2.out.cellS x (by omega)
            have hux : w2.cell? ⟨w.heap.size, x, none⟩ = some (.int .i16 x) := by rw [hux1, hux3 (by omega)]; simp [stOf, hx0]
            have hxi : ¬ x = i := by omega
            have hxi' : ¬ i = x := by omega
            have HK2 : Hid (ks i = [x, y]) := hk2
            rw [hl2]
            clear hux1 hux2 hux3 hgc0 hgc1 he hk2 hl2 HKK
            go_wp2_with (go_at_call 122; refine (callRight_any _ hop _ _ _ _ HN2.out).mono ?_; rintro e w3 ⟨rfl, rfl⟩)
            generalize hw5 : World.setCell _ _ _ = w5
            have HCA5 : Hid (CA w.heap.size w w5 i es.length ks) := by rw [← hw5]; exact ((HI2.out.putS (Nat.le_refl _) _).putH (Nat.le_refl _) _).putS (Nat.le_refl _) _
            obtain ⟨uy, huy1, huy2, huy3⟩ := HCA5.out.cellS y (by omega)
            obtain ⟨vx, hvx1, _, hvx3⟩ := HCA5.out.cellH x (by omega)
            obtain ⟨vy, hvy1, _, hvy3⟩ := HCA5.out.cellH y (by omega)
            obtain ⟨fi, hfi1, hfi2, _⟩ := HCA5.out.cellH i (by omega)
            have m1 : w5.cell? ⟨w.heap.size, i, none⟩ = some (.int .i16 x) := by rw [← hw5]; simp [go_sem, hus1, huh1]
            have m2 : w5.cell? ⟨w.heap.size + 1, i, none⟩ = some (.int .i16 1) := by rw [← hw5]; simp [go_sem, hus1, huh1]
            have m3 : w5.cell? ⟨g, go, none⟩ = some (.int .i16 x) := by rw [← hw5]; simp [go_sem, hc0, hn1, hn2, hn1', hn2']
            have m4 : w5.cell? ⟨g, go + 1, none⟩ = some (.int .i16 y) := by rw [← hw5]; simp [go_sem, hc1, hn1, hn2, hn1', hn2']
            have m5 : w5.cell? ⟨w.heap.size, y, none⟩ = some (.int .i16 y) := by rw [huy1, huy3 (by omega)]; simp [stOf, hy0]
            have m6 : w5.cell? ⟨w.heap.size + 1, x, none⟩ = some (.int .i16 1) := by obtain ⟨hv, e1, _, _, e2⟩ := hvx3 (by omega); rw [hvx1, e1, e2 hx0]
            have m7 : w5.cell? ⟨w.heap.size + 1, y, none⟩ = some (.int .i16 1) := by obtain ⟨hv, e1, _, _, e2⟩ := hvy3 (by omega); rw [hvy1, e1, e2 hy0]
            have m8 := (HNW.out.ext HCA5.out.bel).facts.1
            have hyi' : ¬ y = i := by omega
            have hi128 : (i : Int) < 128 := by omega
            have hx128 : (x : Int) < 128 := by omega
            have hy128 : (y : Int) < 128 := by omega
            have hi0' : (0 : Int) ≤ i := by omega
            have hx0' : (0 : Int) ≤ x := by omega
            have hy0' : (0 : Int) ≤ y := by omega
            have hopf : (ei.op == 6) = false := by simpa using hop
            clear hw5 huy1 huy2 huy3 hvx1 hvx3 hvy1 hvy3 hfi1 hus1 hus2 huh1 huh2 hux hc0 hc1 HI2 HN2 hop
            refine wp_loop_rounds 3 ?_
            rw [rounds_succ]
            go_wp2_with fail
            refine wp_region_can (l := [_, _, _, _, _, _, _, _, _, _, _, _, _]) [(true, 0), (true, 1), (true, 2), (true, 3), (true, 4), (true, 5), (true, 6), (true, 7), (true, 8), (true, 9), (true, 10), (true, 11), (true, 12)] (fun W => W.cell? ⟨w.heap.size, i, none⟩ = some (.int .i16 x) ∧ W.cell? ⟨w.heap.size + 1, i, none⟩ = some (.int .i16 1) ∧ W.cell? ⟨g, go, none⟩ = some (.int .i16 x) ∧ W.cell? ⟨g, go + 1, none⟩ = some (.int .i16 y) ∧ W.cell? ⟨w.heap.size, y, none⟩ = some (.int .i16 y) ∧ W.cell? ⟨w.heap.size + 1, x, none⟩ = some (.int .i16 1) ∧ W.cell? ⟨w.heap.size + 1, y, none⟩ = some (.int .i16 1)) (by kernel_rfl) (by kernel_rfl) ⟨m1, m2, m3, m4, m5, m6, m7⟩ ?_
            repeat (first | ((first | refine wpCan_q (v := ?_) rfl rfl rfl ?_ ?_ | refine wpCan_qg (v := ?_) rfl rfl (by rfl) ?_ ?_); rotate_left; (focus (rintro W ⟨q1, q2, q3, q4, q5, q6, q7⟩; go_simp; first | done | exact rfl)); simp only [Act.put, List.setIfInBounds_toArray, List.set_cons_zero, List.set_cons_succ]) | (refine wpCan_skip rfl rfl (by rfl) ?_; simp only [Act.put, List.setIfInBounds_toArray, List.set_cons_zero, List.set_cons_succ]))
            refine wpCan_nil ?_
            go_wp2_with fail
            refine wp_region_can (l := [_, _, _, _, _, _, _, _, _]) [(true, 0), (true, 1), (true, 2), (true, 3), (true, 4), (true, 5), (true, 6), (true, 7), (true, 8)] (fun W => W.cell? ⟨w.heap.size, i, none⟩ = some (.int .i16 x) ∧ W.cell? ⟨w.heap.size + 1, i, none⟩ = some (.int .i16 1) ∧ W.cell? ⟨g, go, none⟩ = some (.int .i16 x) ∧ W.cell? ⟨g, go + 1, none⟩ = some (.int .i16 y) ∧ W.cell? ⟨w.heap.size, y, none⟩ = some (.int .i16 y) ∧ W.cell? ⟨w.heap.size + 1, x, none⟩ = some (.int .i16 1) ∧ W.cell? ⟨w.heap.size + 1, y, none⟩ = some (.int .i16 1)) (by kernel_rfl) (by kernel_rfl) ⟨m1, m2, m3, m4, m5, m6, m7⟩ ?_
            repeat ((first | refine wpCan_q (v := ?_) rfl rfl rfl ?_ ?_ | refine wpCan_qg (v := ?_) rfl rfl (by rfl) ?_ ?_); rotate_left; (focus (rintro W ⟨q1, q2, q3, q4, q5, q6, q7⟩; go_simp; first | done | exact rfl)); simp only [Act.put, List.setIfInBounds_toArray, List.set_cons_zero, List.set_cons_succ])
            refine wpCan_nil ?_
            go_wp2_with fail
            generalize hw6 : World.drew _ = w6
            have HCA6 : Hid (CA w.heap.size w w6 i es.length ks) := by rw [← hw6]; exact (HCA5.out.putH (Nat.le_refl _) _).ext ((Below.refl _ _).drew.drew)
            have hf6 : w6.frozen? ⟨w.heap.size + 1, i, none⟩ = false := by obtain ⟨_, _, h, _⟩ := HCA6.out.cellH i (by omega); exact h
            have hwz : IntKind.i64.wrap 0 = 0 := by decide
            have hwx : IntKind.i16.wrap ((x : Int) + 1) = (y : Int) := by rw [IntWalk.i16_in _ (by omega)]; omega
            have hhne : ¬ y = i ∧ ¬ x = i := ⟨by omega, by omega⟩
            replace m1 : w6.cell? ⟨w.heap.size, i, none⟩ = some (.int .i16 x) := by rw [← hw6]; simp [go_sem, m1]
            replace m2 : w6.cell? ⟨w.heap.size + 1, i, none⟩ = some (.int .i16 2) := by rw [← hw6]; simp [go_sem, m2]
            replace m3 : w6.cell? ⟨g, go, none⟩ = some (.int .i16 x) := by rw [← hw6]; simp [go_sem, m3, hn1, hn2, hn1', hn2']
            replace m4 : w6.cell? ⟨g, go + 1, none⟩ = some (.int .i16 y) := by rw [← hw6]; simp [go_sem, m4, hn1, hn2, hn1', hn2']
            replace m5 : w6.cell? ⟨w.heap.size, y, none⟩ = some (.int .i16 y) := by rw [← hw6]; simp [go_sem, m5]
            replace m6 : w6.cell? ⟨w.heap.size + 1, x, none⟩ = some (.int .i16 1) := by rw [← hw6]; simp [go_sem, m6, hhne, Ne.symm hhne.2]
            replace m7 : w6.cell? ⟨w.heap.size + 1, y, none⟩ = some (.int .i16 1) := by rw [← hw6]; simp [go_sem, m7, hhne, Ne.symm hhne.1]
            replace m8 := (HNW.out.ext HCA6.out.bel).facts.1
            clear hw6 HCA5 hfi2
            rw [rounds_succ]
            go_wp2_with fail
            refine wp_region_can (l := [_, _, _, _, _, _, _, _, _, _, _, _, _]) [(true, 0), (true, 1), (true, 2), (true, 3), (true, 4), (true, 5), (true, 6), (true, 7), (true, 8), (true, 9), (true, 10), (true, 11), (true, 12)] (fun W => W.cell? ⟨w.heap.size, i, none⟩ = some (.int .i16 x) ∧ W.cell? ⟨w.heap.size + 1, i, none⟩ = some (.int .i16 2) ∧ W.cell? ⟨g, go, none⟩ = some (.int .i16 x) ∧ W.cell? ⟨g, go + 1, none⟩ = some (.int .i16 y) ∧ W.cell? ⟨w.heap.size, y, none⟩ = some (.int .i16 y) ∧ W.cell? ⟨w.heap.size + 1, x, none⟩ = some (.int .i16 1) ∧ W.cell? ⟨w.heap.size + 1, y, none⟩ = some (.int .i16 1)) (by kernel_rfl) (by kernel_rfl) ⟨m1, m2, m3, m4, m5, m6, m7⟩ ?_
            repeat ((first | refine wpCan_q (v := ?_) rfl rfl rfl ?_ ?_ | refine wpCan_qg (v := ?_) rfl rfl (by rfl) ?_ ?_); rotate_left; (focus (rintro W ⟨q1, q2, q3, q4, q5, q6, q7⟩; go_simp; first | done | exact rfl)); simp only [Act.put, List.setIfInBounds_toArray, List.set_cons_zero, List.set_cons_succ])
            refine wpCan_nil ?_
            go_wp2_with fail
            refine wp_region_can (l := [_, _, _, _, _, _, _, _, _]) [(true, 0), (true, 1), (true, 2), (true, 3), (true, 4), (true, 5), (true, 6), (true, 7), (true, 8)] (fun W => W.cell? ⟨w.heap.size, i, none⟩ = some (.int .i16 x) ∧ W.cell? ⟨w.heap.size + 1, i, none⟩ = some (.int .i16 2) ∧ W.cell? ⟨g, go, none⟩ = some (.int .i16 x) ∧ W.cell? ⟨g, go + 1, none⟩ = some (.int .i16 y) ∧ W.cell? ⟨w.heap.size, y, none⟩ = some (.int .i16 y) ∧ W.cell? ⟨w.heap.size + 1, x, none⟩ = some (.int .i16 1) ∧ W.cell? ⟨w.heap.size + 1, y, none⟩ = some (.int .i16 1)) (by kernel_rfl) (by kernel_rfl) ⟨m1, m2, m3, m4, m5, m6, m7⟩ ?_
            repeat ((first | refine wpCan_q (v := ?_) rfl rfl rfl ?_ ?_ | refine wpCan_qg (v := ?_) rfl rfl (by rfl) ?_ ?_); rotate_left; (focus (rintro W ⟨q1, q2, q3, q4, q5, q6, q7⟩; go_simp; first | done | exact rfl)); simp only [Act.put, List.setIfInBounds_toArray, List.set_cons_zero, List.set_cons_succ])
            refine wpCan_nil ?_
            go_wp2_with fail
            rw [rounds_succ]
            go_wp2_with fail
            go_roundw
            case rel =>
              refine ⟨i + 1, by omega, by go_num, ?_⟩
              have hk := (HCA6.out.putH (Nat.le_refl _) (.int .i16 2)).bump 2 (by simp [go_sem, m1, stOf, HK2.out]) (by simp [go_sem, m2]) (by omega) (by omega) (fun e => by rw [HK2.out] at e; cases e)
              exact hk.ext ((Below.refl _ _).drew.drew)
            case measure => simp [intOf]; omega
        · have ei : i = es.length := by omega
          subst ei
          go_wp2_with fail
          go_loopw [142] (fun c wr => ∃ k : Nat, k ≤ es.length ∧ c = .int .i64 k ∧ Hid (CA w.heap.size w wr es.length es.length ks)) (fun c _ => es.length - (intOf c).toNat)
          case atStart => exact ⟨0, Nat.zero_le _, rfl, HI⟩
          case round =>
            clear HI
            obtain ⟨k, hk, rfl, HI⟩ := hrel
            by_cases hkn : k < es.length
            · obtain ⟨b, o, rfl, _, hN⟩ := HNODE.out k hkn
              have hN2 := hN.ext HI.out.bel
              have hcc := (HC.out k hkn).1
              obtain ⟨_, _, _, g3, _⟩ := hN2.facts
              rw [hcc] at g3
              obtain ⟨u, hu1, hu2, hu3⟩ := HI.out.cellC k (by omega)
              rw [hu3 hkn] at hu1
              have hk128 : (k : Int) < 128 := by omega
              have hk0' : (0 : Int) ≤ k := by omega
              clear hN hN2 hcc hu2 hu3
              go_wp2_with fail
              refine wp_region_can (l := [_, _, _, _, _, _, _, _]) [(true, 0), (true, 1), (true, 2), (true, 3), (true, 4), (true, 5), (true, 6), (true, 7)] (fun W => W.cell? ⟨b, o + k * 12 + 3, none⟩ = some (.int .i16 (-1)) ∧ W.cell? ⟨w.heap.size + 2, k, none⟩ = some (.int .i16 (-1))) (by kernel_rfl) (by kernel_rfl) ⟨g3, hu1⟩ ?_
              repeat ((first | refine wpCan_q (v := ?_) rfl rfl rfl ?_ ?_ | refine wpCan_qg (v := ?_) rfl rfl (by rfl) ?_ ?_); rotate_left; (focus (rintro W ⟨q1, q2⟩; go_simp; first | done | exact rfl)); simp only [Act.put, List.setIfInBounds_toArray, List.set_cons_zero, List.set_cons_succ])
              refine wpCan_nil ?_
              go_wp2_with fail
              go_roundw
              case rel => exact ⟨k + 1, by omega, by go_num, HI.out.ext ((Below.refl _ _).drew)⟩
              case measure => simp [intOf]; omega
            · have ek : k = es.length := by omega
              subst ek
              go_wp2_with fail
              go_loopw [157, 16] (fun c nx wr => ∃ j : Nat, j ≤ rts.length ∧ c = .int .i64 j ∧ ∃ next : Nat, next ≤ 128 ∧ nx = .int .i16 next ∧ Hid (tile ks es.length next (rts.drop j) = some es.length) ∧ Hid (CA w.heap.size w wr es.length es.length ks)) (fun c _ _ => rts.length - (intOf c).toNat)
              case atStart => exact ⟨0, Nat.zero_le _, rfl, 0, by omega, rfl, HT, HI⟩
              case round =>
                clear HI HT
                obtain ⟨j, hj, rfl, next, hnx, rfl, HT, HI⟩ := hrel
                by_cases hjm : j < rts.length
                · obtain ⟨b, o, rfl, _, hb, hc0⟩ := HROOT.out j hjm
                  have hc0' := hc0 0 (by omega)
                  rw [← HI.out.bel.cell (p := ⟨b, _, none⟩) hb] at hc0'
                  obtain ⟨r, hr⟩ : ∃ r, r = rts[j] := ⟨_, rfl⟩
                  have hcr : wr.cell? ⟨b, o + j, none⟩ = some (.int .i16 r) := by
                    simpa [i16L, List.getD_eq_getElem?_getD, hjm, ← hr] using hc0'
                  have hdr : rts.drop j = r :: rts.drop (j + 1) := by rw [hr]; exact List.drop_eq_getElem_cons hjm
                  have hT := HT.out
                  rw [hdr] at hT
                  unfold tile at hT
                  split at hT
                  · rename_i hcond
                    obtain ⟨hrn, hst⟩ := hcond
                    have HT2 : Hid (tile ks es.length (r + 1) (rts.drop (j + 1)) = some es.length) := hT
                    obtain ⟨u, hu1, _, hu3⟩ := HI.out.cellS r (by omega)
                    rw [hu3 hrn, hst] at hu1
                    have hr128 : (r : Int) < 128 := by omega
                    have hr0' : (0 : Int) ≤ r := by omega
                    have hrn' : ¬ (es.length : Int) ≤ r := by omega
                    have hrneg : ¬ (r : Int) < 0 := by omega
                    clear hc0 hc0' hT HT hdr hr hst hu3 hb
                    go_wp2_with fail
                    go_roundw
                    case rel => exact ⟨j + 1, by omega, by go_num, r + 1, by omega, by go_num, HT2, HI⟩
                    case measure => simp [intOf]; omega
                  · cases hT
                · have ej : j = rts.length := by omega
                  subst ej
                  have hT := HT.out
                  rw [List.drop_length] at hT
                  simp only [tile, Option.some.injEq] at hT
                  subst hT
                  go_wp2_with fail
                  go_ret
                  exact ⟨by simp, HI.out.bel⟩
end Go.Proofs.YgdaegDoor
