import Derived.Test.YgdaegDoorRoots
import Derived.Test.YgdaegDoorGs
namespace Go.Proofs.YgdaegDoor
open Go.RowKit
set_option linter.unusedSimpArgs false
set_option linter.unusedVariables false
/-- What one owns stays as another slice of another type grows. -/
theorem own_kept {w w' : World} {B B' : Nat} {e e' : TypeId} {size size' n n' : Nat} {v v' : Value} {xs xs' : List Value} (h : w.ownsRow B e size v n xs) (h' : w.ownsRow B' e' size' v' n' xs') (hne : e ≠ e') (hg : w.grownBy w' v'.ownBlock) : w'.ownsRow B e size v n xs :=
  ownsRow_blk h (fun g hgv => hg.block g (h.lt g hgv).2 (fun e0 => by
    obtain ⟨z, hz⟩ := own_type h hgv
    obtain ⟨z', hz'⟩ := own_type h' e0.symm
    exact hne (type_ne hz hz')))
def i16V (l : List Nat) : List Value := l.map fun (n : Nat) => Value.int .i16 (n : Int)
def boolV (l : List Bool) : List Value := l.map Value.bool
theorem i16V_flat : ∀ (l : List Nat), (i16L l).flatten = i16V l
  | [] => rfl
  | x :: l => by
    show [Value.int .i16 (x : Int)] ++ (i16L l).flatten = _
    rw [i16V_flat l]
    rfl
theorem boolV_flat : ∀ (l : List Bool), (boolL l).flatten = boolV l
  | [] => rfl
  | x :: l => by
    show [Value.bool x] ++ (boolL l).flatten = _
    rw [boolV_flat l]
    rfl
theorem i16_get {w : World} {ok : Nat → Prop} {gv : Value} {g : List Nat} (h : Arr w ok gv 1 (i16L g)) : ∃ a cap, gv = .slice a g.length cap ∧ ∀ j (hj : j < g.length), ∃ b o, a = some ⟨b, o, none⟩ ∧ ok b ∧ b < w.heap.size ∧ w.cell? ⟨b, o + j, none⟩ = some (.int .i16 (g[j] : Nat)) := by
  obtain ⟨a, cap, h1, _, h2⟩ := h
  have hl : (i16L g).length = g.length := by simp [i16L]
  rw [hl] at h1
  refine ⟨a, cap, h1, fun j hj => ?_⟩
  obtain ⟨b, o, h3, h4, h5, h6⟩ := h2 j (by omega)
  refine ⟨b, o, h3, h4, h5, ?_⟩
  have := h6 0 (by omega)
  simpa [i16L, List.getD_eq_getElem?_getD, hj] using this
set_option maxRecDepth 20000 in
set_option maxHeartbeats 4000000 in
/-- The roots of a SELECT with items and groups. -/
theorem roots_sel (s : St) (ps : Nat) (its gsl : List Nat) (w : World) (ok : Nat → Prop) (hst : StAt w ps s) (hk : s.kind = 5) (hwh : s.wher = -1) (htu : s.tuples = nilS) (hi : Arr w ok s.items 1 (i16L its)) (hg : Arr w ok s.groups 1 (i16L gsl)) (hil : its.length ≤ 100) (hgl : gsl.length ≤ 20) :
    Calls Yaed.prog 60 #[.pointer (some ⟨ps, 0, none⟩)] w fun r w' => ∃ rv av, r = .returned (.tuple #[rv, av]) ∧ Arr w' (fun b => w.heap.size ≤ b) rv 1 (i16L (its ++ gsl)) ∧
      Arr w' (fun b => w.heap.size ≤ b) av 1 (boolL (List.replicate its.length true ++ List.replicate gsl.length false)) ∧ Below w.heap.size w w' := by
  obtain ⟨ia, ic, hiv, hicell⟩ := i16_get hi
  obtain ⟨ga, gc, hgv, hgcell⟩ := i16_get hg
  have HST : Hid (StAt w ps s) := hst
  have HIA : Hid (Arr w ok (.slice ia its.length ic) 1 (i16L its)) := by rw [hiv] at hi; exact hi
  have HGC : Hid (∀ j (hj : j < gsl.length), ∃ b o, ga = some ⟨b, o, none⟩ ∧ ok b ∧ b < w.heap.size ∧ w.cell? ⟨b, o + j, none⟩ = some (.int .i16 (gsl[j] : Nat))) := hgcell
  have HSF : Hid (∀ w', Below w.heap.size w w' → w'.cell? ⟨ps, 0, none⟩ = some (.int .u8 5) ∧ w'.cell? ⟨ps, 4, none⟩ = some (.slice ga gsl.length gc) ∧ w'.cell? ⟨ps, 5, none⟩ = some nilS ∧ w'.cell? ⟨ps, 9, none⟩ = some nilS ∧ w'.cell? ⟨ps, 10, none⟩ = some (.slice ia its.length ic) ∧ w'.cell? ⟨ps, 11, none⟩ = some nilS ∧ w'.cell? ⟨ps, 13, none⟩ = some nilS ∧ w'.cell? ⟨ps, 14, none⟩ = some (.int .i16 (-1))) := fun w' hb => by
    obtain ⟨f0, f3, f4, f5, f9, f10, f11, f13, f14, f18⟩ := (hst.ext hb).facts
    rw [hk] at f0; rw [hgv] at f4; rw [htu] at f9; rw [hiv] at f10; rw [hwh] at f14
    exact ⟨f0, f4, f5, f9, f10, f11, f13, f14⟩
  obtain ⟨f0, f4, f5, f9, f10, f11, f13, f14⟩ := HSF.out w (Below.refl _ _)
  obtain ⟨N, hN⟩ : ∃ N, its.length = N := ⟨_, rfl⟩
  obtain ⟨M, hM⟩ : ∃ M, gsl.length = M := ⟨_, rfl⟩
  have HN : Hid (its.length = N) := hN
  have HM : Hid (gsl.length = M) := hM
  rw [hN, hM] at HSF
  rw [hN] at hil f10 HIA ⊢
  rw [hM] at hgl f4 ⊢
  obtain ⟨B, hB⟩ : ∃ B, w.heap.size = B := ⟨_, rfl⟩
  have HBW : Hid (w.heap.size = B) := hB
  rw [hB]
  rw [hB] at HSF
  have hBw : B ≤ w.heap.size := by omega
  have hBl : w.heap.size ≤ B := by omega
  have HOwn0 : Hid (w.ownsRow B 35 1 nilS 0 []) := World.ownsRow_nil _ _ _ _
  clear hst hicell hgcell hi hg hiv hgv htu hk hwh hN hM hB
  go_enter Yaed.func60, Yaed.ntmps60
  go_wp2_with fail
  refine wp_loop_rounds 1 ?_
  rw [rounds_succ]
  go_wp2_with (refine wpList_appS B rfl rfl under30 info35 rfl rfl HOwn0.out HIA.out i16_one (by intro u hu; rw [i16V_flat] at hu; simp only [i16V, List.mem_map] at hu; obtain ⟨x, _, rfl⟩ := hu; rfl) (by omega) (by simp only [i16L, List.length_map]; have := HN.out; omega) (by omega) hBw ?_)
  intro ra rc w2 hown2 hgr2 _
  have e1 : (i16L its).length = N := by simp only [i16L, List.length_map]; exact HN.out
  try rw [Nat.zero_add] at hown2
  try rw [Nat.zero_add]
  rw [e1] at hown2 ⊢
  rw [i16V_flat] at hown2
  try rw [List.nil_append] at hown2
  have HB2 : Hid (Below B w w2) := below_grown HOwn0.out hgr2 hBw
  have HO2 : Hid (w2.ownsRow B 35 1 (.slice ra N rc) N (i16V its)) := hown2
  clear hown2 hgr2 e1 f0 f4 f5 f9 f10 f11 f13 f14 HOwn0
  obtain ⟨f0, f4, f5, f9, f10, f11, f13, f14⟩ := HSF.out w2 HB2.out
  have hs2 : B ≤ w2.heap.size := by have := HB2.out.size; omega
  have hw0 : IntKind.i64.wrap 0 = 0 := by decide
  go_wp2_with (refine wpList_appZ (u := .bool false) (n := 0) (base := B) 3 rfl rfl rfl rfl .i64 rfl under33 under3 Yaed.t4 (.bool false) inf4 zero4 rfl (by decide) rfl (by omega) hs2 ?_)
  intro aa0 ac0 w3 _ hb3 haz haz2
  subst haz
  subst haz2
  have HB3 : Hid (Below B w w3) := HB2.out.trans (hb3.mono hs2)
  have HO3 : Hid (w3.ownsRow B 35 1 (.slice ra N rc) N (i16V its)) := ownsRow_ext HO2.out hb3
  have hs3 : B ≤ w3.heap.size := by have := HB3.out.size; omega
  clear hb3 f0 f4 f5 f9 f10 f11 f13 f14 HB2 HO2
  obtain ⟨f0, f4, f5, f9, f10, f11, f13, f14⟩ := HSF.out w3 HB3.out
  go_wp2_with fail
  clear f0 f4 f5 f9 f10 f11 f13 f14
  go_loopw [50, 5] (fun c av wr => ∃ k : Nat, k ≤ N ∧ c = .int .i64 k ∧ ∃ aa ac, av = .slice aa k ac ∧ B ≤ wr.heap.size ∧ Hid (Below B w wr) ∧ Hid (wr.ownsRow B 35 1 (.slice ra N rc) N (i16V its)) ∧ Hid (wr.ownsRow B 4 1 (.slice aa k ac) k (boolV (List.replicate k true)))) (fun c _ _ => N - (intOf c).toNat)
  case atStart => exact ⟨0, Nat.zero_le _, rfl, none, 0, rfl, hs3, HB3, HO3, World.ownsRow_nil _ _ _ _⟩
  case round =>
    clear HB3 HO3 hs3
    obtain ⟨k, hk, rfl, aa, ac, rfl, hsr, HB, HO, HA⟩ := hrel
    by_cases hkn : k < N
    · have hkn' : (k : Int) < N := by omega
      go_wp2_with (at_builtin; go_must (refine wpList_app1 B rfl rfl under33 info4 rfl rfl (HA.out.alloc _) (by exact heap_new rfl) (by rfl) (by intro u hu; simp at hu; subst hu; rfl) (by omega) (by omega) (by omega) (by simp; omega) ?_))
      intro g cap w5 hown5 hgrow5 hat5 hlt5
      have HB5 : Hid (Below B w w5) := (HB.out.trans ((below_alloc wr _).mono hsr)).trans (below_grown (HA.out.alloc _) hgrow5 (by simp; omega))
      have HO5 : Hid (w5.ownsRow B 35 1 (.slice ra N rc) N (i16V its)) := own_kept (HO.out.alloc _) (HA.out.alloc _) (by decide) hgrow5
      have HA5 : Hid (w5.ownsRow B 4 1 (.slice (some ⟨g, 0, none⟩) (k + 1) cap) (k + 1) (boolV (List.replicate (k + 1) true))) := by
        have h9 : boolV (List.replicate (k + 1) true) = boolV (List.replicate k true) ++ [.bool true] := by rw [List.replicate_succ']; simp [boolV]
        rw [h9]; exact hown5
      have hs5 : B ≤ w5.heap.size := by have := HB5.out.size; omega
      clear hown5 hgrow5 hat5 hlt5 HB HO HA
      go_wp2_with fail
      go_roundw
      case rel => exact ⟨k + 1, by omega, by go_num, _, _, rfl, hs5, HB5, HO5, HA5⟩
      case measure => simp [intOf]; omega
    · obtain rfl : k = N := by omega
      obtain ⟨f0, f4, f5, f9, f10, f11, f13, f14⟩ := HSF.out wr HB.out
      go_wp2_with fail
      clear f0 f4 f5 f9 f10 f11 f13 f14
      have HAN : Hid (∃ l, l = List.replicate k true ∧ wr.ownsRow B 4 1 (.slice aa k ac) k (boolV l)) := ⟨_, rfl, HA.out⟩
      generalize hwb : wr = wb at *
      clear hwb
      go_loopw [83, 4, 5] (fun c rv av wr => ∃ j : Nat, j ≤ M ∧ c = .int .i64 j ∧ ∃ ra rc aa ac nn, Hid (nn = k + j) ∧ rv = .slice ra nn rc ∧ av = .slice aa nn ac ∧ B ≤ wr.heap.size ∧ Hid (Below B w wr) ∧ Hid (wr.ownsRow B 35 1 (.slice ra nn rc) nn (i16V (its ++ gsl.take j))) ∧ Hid (wr.ownsRow B 4 1 (.slice aa nn ac) nn (boolV (List.replicate k true ++ List.replicate j false)))) (fun c _ _ _ => M - (intOf c).toNat)
      case atStart => exact ⟨0, Nat.zero_le _, rfl, ra, rc, aa, ac, k, rfl, rfl, rfl, hsr, HB, by rw [List.take_zero, List.append_nil]; exact HO, by rw [List.replicate_zero, List.append_nil]; exact HA⟩
      case round =>
        clear HB HO HA hsr HAN
        obtain ⟨j, hj, rfl, ra, rc, aa, ac, nn, HNN, rfl, rfl, hsr, HB, HO, HA⟩ := hrel
        have hnl : nn ≤ 200 := by have := HNN.out; omega
        by_cases hjm : j < M
        · have hjm' : (j : Int) < M := by omega
          obtain ⟨gb, go, rfl, _, hgb, hgcell⟩ := HGC.out j (by rw [HM.out]; exact hjm)
          obtain ⟨x, hx⟩ : ∃ x, gsl[j]'(by rw [HM.out]; exact hjm) = x := ⟨_, rfl⟩
          rw [hx] at hgcell
          have HTK : Hid (its ++ gsl.take (j + 1) = (its ++ gsl.take j) ++ [x]) := by
            have h8 : j < gsl.length := by rw [HM.out]; exact hjm
            rw [List.take_add_one, List.getElem?_eq_getElem h8, hx, ← List.append_assoc]; rfl
          have eg : wr.cell? ⟨gb, go + j, none⟩ = some (.int .i16 (x : Nat)) := by rw [HB.out.cell (p := ⟨gb, _, none⟩) (by show gb < B; omega)]; exact hgcell
          clear hx hgcell
          go_wp2_with (at_builtin; go_must (refine wpList_app1 B rfl rfl under30 info35 rfl rfl (HO.out.alloc _) (by exact heap_new rfl) (by rfl) (by intro u hu; simp at hu; subst hu; rfl) (by omega) (by omega) (by omega) (by simp; omega) ?_))
          intro g cap w5 hown5 hgrow5 hat5 hlt5
          have HB5 : Hid (Below B w w5) := (HB.out.trans ((below_alloc wr _).mono hsr)).trans (below_grown (HO.out.alloc _) hgrow5 (by simp; omega))
          have HA5 : Hid (w5.ownsRow B 4 1 (.slice aa nn ac) nn (boolV (List.replicate k true ++ List.replicate j false))) := own_kept (HA.out.alloc _) (HO.out.alloc _) (by decide) hgrow5
          have HO5 : Hid (w5.ownsRow B 35 1 (.slice (some ⟨g, 0, none⟩) (nn + 1) cap) (nn + 1) (i16V (its ++ gsl.take (j + 1)))) := by
            have h9 : i16V (its ++ gsl.take (j + 1)) = i16V (its ++ gsl.take j) ++ [.int .i16 (x : Nat)] := by rw [HTK.out]; simp [i16V]
            rw [h9]; exact hown5
          have hs5 : B ≤ w5.heap.size := by have := HB5.out.size; omega
          clear hown5 hgrow5 hat5 hlt5 HB HO HA eg
          go_wp2_with (at_builtin; go_must (refine wpList_app1 B rfl rfl under33 info4 rfl rfl (HA5.out.alloc _) (by exact heap_new rfl) (by rfl) (by intro u hu; simp at hu; subst hu; rfl) (by omega) (by omega) (by omega) (by simp; omega) ?_))
          intro g2 cap2 w6 hown6 hgrow6 hat6 hlt6
          have HB6 : Hid (Below B w w6) := (HB5.out.trans ((below_alloc w5 _).mono hs5)).trans (below_grown (HA5.out.alloc _) hgrow6 (by simp; omega))
          have HO6 : Hid (w6.ownsRow B 35 1 (.slice (some ⟨g, 0, none⟩) (nn + 1) cap) (nn + 1) (i16V (its ++ gsl.take (j + 1)))) := own_kept (HO5.out.alloc _) (HA5.out.alloc _) (by decide) hgrow6
          have HA6 : Hid (w6.ownsRow B 4 1 (.slice (some ⟨g2, 0, none⟩) (nn + 1) cap2) (nn + 1) (boolV (List.replicate k true ++ List.replicate (j + 1) false))) := by
            have h9 : boolV (List.replicate k true ++ List.replicate (j + 1) false) = boolV (List.replicate k true ++ List.replicate j false) ++ [.bool false] := by rw [List.replicate_succ']; simp [boolV]
            rw [h9]; exact hown6
          have hs6 : B ≤ w6.heap.size := by have := HB6.out.size; omega
          clear hown6 hgrow6 hat6 hlt6 HB5 HO5 HA5 hs5
          go_wp2_with fail
          go_roundw
          case rel => exact ⟨j + 1, by omega, by go_num, _, _, _, _, nn + 1, (show nn + 1 = k + (j + 1) by have := HNN.out; omega), rfl, rfl, hs6, HB6, HO6, HA6⟩
          case measure => simp [intOf]; omega
        · obtain rfl : j = M := by omega
          obtain ⟨f0, f4, f5, f9, f10, f11, f13, f14⟩ := HSF.out wr HB.out
          go_wp2_with fail
          refine wp_loop_rounds 1 ?_
          rw [rounds_succ]
          go_wp2_with fail
          refine wp_loop_rounds 1 ?_
          rw [rounds_succ]
          go_wp2_with fail
          refine wp_loop_rounds 1 ?_
          rw [rounds_succ]
          go_wp2_with fail
          refine wp_loop_rounds 1 ?_
          rw [rounds_succ]
          go_wp2_with fail
          go_ret2
          have ht : gsl.take j = gsl := by rw [← HM.out]; exact List.take_length
          rw [ht] at HO
          refine ⟨_, _, rfl, ?_, ?_, HB.out⟩
          · exact (Arr.of_owns (rows := i16L (its ++ gsl)) (by rw [i16V_flat, show (i16L (its ++ gsl)).length = nn by simp only [i16L, List.length_map, List.length_append]; have h1 := HN.out; have h2 := HM.out; have h3 := HNN.out; omega]; exact HO.out) i16_one).mono (own_ge HO.out)
          · exact (Arr.of_owns (rows := boolL (List.replicate k true ++ List.replicate j false)) (by rw [boolV_flat, show (boolL (List.replicate k true ++ List.replicate j false)).length = nn by simp only [boolL, List.length_map, List.length_append, List.length_replicate]; have h3 := HNN.out; omega]; exact HA.out) bool_one).mono (own_ge HA.out)
end Go.Proofs.YgdaegDoor
