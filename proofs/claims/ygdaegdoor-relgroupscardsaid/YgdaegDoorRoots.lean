import Derived.Test.YgdaegDoorApp
import Derived.Test.YgdaegDoorTab
namespace Go.Proofs.YgdaegDoor
open Go.RowKit
set_option linter.unusedSimpArgs false
set_option linter.unusedVariables false

/-- A statement in its block. -/
def StAt (w : World) (ps : Nat) (s : St) : Prop := w.heap[ps]? = some (.cells s.arr 38 (0, 0))
section
variable {w w' : World} {ps : Nat} {s : St}
theorem StAt.lt (h : StAt w ps s) : ps < w.heap.size := block_lt h
theorem StAt.ext (h : StAt w ps s) (hb : Below w.heap.size w w') : StAt w' ps s := (hb.block _ h.lt).trans h
theorem StAt.keep {X : Nat → Prop} (h : StAt w ps s) (hb : Keep X w w') (hX : X ps) : StAt w' ps s := (hb.block _ hX).trans h
theorem StAt.cell (h : StAt w ps s) (k : Nat) : w.cell? ⟨ps, k, none⟩ = s.arr[k]? := cell_of_row w ps k s.arr 38 _ h
theorem StAt.facts (h : StAt w ps s) : w.cell? ⟨ps, 0, none⟩ = some (.int .u8 s.kind) ∧ w.cell? ⟨ps, 3, none⟩ = some nilS ∧ w.cell? ⟨ps, 4, none⟩ = some s.groups ∧ w.cell? ⟨ps, 5, none⟩ = some nilS ∧
    w.cell? ⟨ps, 9, none⟩ = some s.tuples ∧ w.cell? ⟨ps, 10, none⟩ = some s.items ∧ w.cell? ⟨ps, 11, none⟩ = some nilS ∧ w.cell? ⟨ps, 13, none⟩ = some nilS ∧ w.cell? ⟨ps, 14, none⟩ = some (.int .i16 s.wher) ∧ w.cell? ⟨ps, 18, none⟩ = some s.arena :=
  ⟨h.cell 0, h.cell 3, h.cell 4, h.cell 5, h.cell 9, h.cell 10, h.cell 11, h.cell 13, h.cell 14, h.cell 18⟩
end

def boolL (l : List Bool) : List (List Value) := l.map fun b => [Value.bool b]
theorem info4 : infoTest Yaed.prog 4 1 1 = true := by kernel_rfl
theorem under30 : Yaed.prog.underlying 30 = some (.slice 35) := by kernel_rfl
theorem under33 : Yaed.prog.underlying 33 = some (.slice 4) := by kernel_rfl

theorem inf4 : Yaed.prog.info? 4 = some Yaed.t4 := by kernel_rfl
theorem zero4 : Yaed.t4.zero = some (.bool false) := by kernel_rfl
theorem under3 : Yaed.prog.underlying 3 = some (.int .i64) := by kernel_rfl
theorem i16_one {l : List Nat} : ∀ r ∈ i16L l, r.length = 1 := by intro r hr; simp only [i16L, List.mem_map] at hr; obtain ⟨x, _, rfl⟩ := hr; rfl
theorem bool_one {l : List Bool} : ∀ r ∈ boolL l, r.length = 1 := by intro r hr; simp only [boolL, List.mem_map] at hr; obtain ⟨x, _, rfl⟩ := hr; rfl
theorem own_ge {w : World} {base : Nat} {e : TypeId} {size n : Nat} {v : Value} {xs : List Value} (h : w.ownsRow base e size v n xs) : ∀ b, v.ownBlock = some b → base ≤ b := by
  intro b hb
  rcases h.2 with ⟨rfl, _⟩ | ⟨g, cap, cur, rfl, hg, _⟩
  · cases hb
  · simp only [Value.ownBlock, Option.some.injEq] at hb; omega
def whL (s : St) : List Nat := if 0 ≤ s.wher then [s.wher.toNat] else []

set_option maxRecDepth 20000 in
set_option maxHeartbeats 4000000 in
theorem roots_plain (s : St) (ps : Nat) (tl : List (List Nat)) (w : World) (ok : Nat → Prop) (hst : StAt w ps s) (hg : s.groups = nilS) (hi : s.items = nilS) (ht : Arr2 w ok s.tuples 1 (tl.map i16L))
    (hkw : (0 ≤ s.wher ∧ s.kind = 7 ∧ tl = []) ∨ (s.wher = -1 ∧ s.kind = 5) ∨ (s.wher = -1 ∧ (s.kind == 5) = false ∧ (s.kind == 6) = false ∧ (s.kind == 7) = false)) (htn : tl.flatten.length ≤ 128) (htl : tl.length ≤ 32) :
    Calls Yaed.prog 60 #[.pointer (some ⟨ps, 0, none⟩)] w fun r w' => ∃ rv av, r = .returned (.tuple #[rv, av]) ∧ Arr w' (fun b => w.heap.size ≤ b) rv 1 (i16L (tl.flatten ++ whL s)) ∧
      Arr w' (fun b => w.heap.size ≤ b) av 1 (boolL (List.replicate (tl.flatten.length + (whL s).length) false)) ∧ Below w.heap.size w w' := by
  obtain ⟨tvs, htvl, ht1, ht2⟩ := ht
  obtain ⟨ta, tcap, htv, htc, htcell⟩ := ht1
  have htlen : (tvs.map fun x => [x]).length = tl.length := by simpa using htvl
  rw [htlen] at htv htc
  have HST : Hid (StAt w ps s) := hst
  have HTC : Hid _ := htcell
  have HT2 : Hid _ := ht2
  obtain ⟨f0, f3, f4, f5, f9, f10, f11, f13, f14, f18⟩ := hst.facts
  rw [htv] at f9
  rw [hg] at f4
  rw [hi] at f10
  have HOwn0 : Hid (w.ownsRow w.heap.size 35 1 nilS 0 []) := World.ownsRow_nil _ _ _ _
  clear hst htcell ht2 f18
  go_enter Yaed.func60, Yaed.ntmps60
  go_wp2_with fail
  go_loopw [21, 4] (fun c rv wr => ∃ j : Nat, j ≤ tl.length ∧ c = .int .i64 j ∧ ∃ ra m rc, m = (tl.take j).flatten.length ∧ rv = .slice ra m rc ∧ Hid (wr.ownsRow w.heap.size 35 1 (.slice ra m rc) m (i16L (tl.take j).flatten).flatten ∧ Below w.heap.size w wr)) (fun c _ _ => tl.length - (intOf c).toNat)
  case atStart => exact ⟨0, Nat.zero_le _, rfl, none, 0, 0, rfl, rfl, HOwn0.out, Below.refl _ _⟩
  case round =>
    obtain ⟨j, hj, rfl, ra, m, rc, hm, rfl, HI⟩ := hrel
    have HM : Hid (m = (tl.take j).flatten.length) := hm
    clear hm f0 f3 f4 f5 f9 f10 f11 f13 f14
    by_cases hjn : j < tl.length
    · obtain ⟨b, o, rfl, _, hb, hcell⟩ := HTC.out j (by omega)
      have hc0 := hcell 0 (by omega)
      obtain ⟨tv, htv'⟩ : ∃ tv, tvs.getD j undef = tv := ⟨_, rfl⟩
      have hcc : wr.cell? ⟨b, o + j, none⟩ = some tv := by
        rw [HI.out.2.cell (p := ⟨b, _, none⟩) hb, ← htv']
        simpa [List.getD_eq_getElem?_getD, htvl, hjn] using hc0
      have HTV : Hid (Arr wr ok tv 1 (i16L (tl.getD j []))) := by
        have := (HT2.out j (by simpa using hjn)).ext HI.out.2
        rw [htv'] at this
        exact (show Arr wr ok tv 1 (i16L (tl.getD j [])) by simpa [List.getD_eq_getElem?_getD, hjn] using this)
      have hlen : (i16L (tl.getD j [])).length = (tl.getD j []).length := by simp [i16L]
      have hone : ∀ r ∈ i16L (tl.getD j []), r.length = 1 := by intro r hr; simp only [i16L, List.mem_map] at hr; obtain ⟨x, _, rfl⟩ := hr; rfl
      have hone2 : ∀ u ∈ (i16L (tl.getD j [])).flatten, u.oneCell' = true := by
        intro u hu; simp only [i16L, List.mem_flatten, List.mem_map] at hu; obtain ⟨l, ⟨x, _, rfl⟩, hu⟩ := hu; simp at hu; subst hu; rfl
      have htk : tl.take (j + 1) = tl.take j ++ [tl.getD j []] := by rw [getD_of_lt _ _ _ hjn, List.take_add_one, List.getElem?_eq_getElem hjn]; rfl
      have hmle : m + (tl.getD j []).length ≤ 128 := by
        rw [HM.out]
        have h1 : (tl.take (j + 1)).flatten.length ≤ tl.flatten.length := by
          conv => rhs; rw [← List.take_append_drop (j + 1) tl]
          rw [List.flatten_append, List.length_append]; omega
        rw [htk, List.flatten_append, List.length_append] at h1
        simp at h1 htn ⊢
        omega
      obtain ⟨q, hq⟩ : ∃ q, i16L (tl.getD j []) = q := ⟨_, rfl⟩
      have HQ : Hid (i16L (tl.getD j []) = q) := hq
      have HTK : Hid (tl.take (j + 1) = tl.take j ++ [tl.getD j []]) := htk
      have hql : q.length ≤ 128 := by rw [← hq, hlen]; omega
      rw [hq] at HTV hone hone2 hlen
      have HONE : Hid _ := hone
      have HONE2 : Hid _ := hone2
      have HLEN : Hid _ := hlen
      clear hone hone2 hc0 hcell hq htk hlen
      go_wp2_with (refine wpList_appS w.heap.size rfl rfl under30 info35 rfl rfl HI.out.1 HTV.out HONE.out HONE2.out (by omega) (by omega) (by omega) HI.out.2.size ?_; intro ra2 rc2 w2 hown2 hgr2 _)
      have HI2 : Hid (w2.ownsRow w.heap.size 35 1 (.slice ra2 (m + q.length) rc2) (m + q.length) ((i16L (tl.take j).flatten).flatten ++ q.flatten) ∧ Below w.heap.size w w2) := ⟨hown2, HI.out.2.trans (below_grown HI.out.1 hgr2 HI.out.2.size)⟩
      clear hown2 hgr2
      go_wp2_with fail
      go_roundw
      case rel =>
        refine ⟨j + 1, by omega, by go_num, ra2, m + q.length, rc2, ?_, rfl, ?_, HI2.out.2⟩
        · rw [HTK.out, List.flatten_append, List.length_append, HM.out, HLEN.out]; simp
        · have := HI2.out.1
          rw [HTK.out, List.flatten_append]
          rw [← HQ.out] at this ⊢
          simpa [i16L] using this
      case measure => simp [intOf]; omega
    · have ej : j = tl.length := by omega
      subst ej
      rw [List.take_length] at HI HM
      have hb := HI.out.2
      have hm128 : m ≤ 128 := by rw [HM.out]; exact htn
      obtain ⟨f0, f3, f4, f5, f9, f10, f11, f13, f14, f18⟩ := (HST.out.ext hb).facts
      rw [hg] at f4
      rw [hi] at f10
      clear hb f18 f9
      have hwm : IntKind.i64.wrap (m : Int) = m := IntWalk.i64_in _ (by omega)
      go_wp2_with (first | (refine wpList_appS w.heap.size rfl rfl under30 info35 rfl rfl HI.out.1 (Arr.nil _ (fun _ => True) 1) (by simp) (by simp) (by omega) (by simp; omega) (by omega) HI.out.2.size ?_; intro ra2 rc2 w2 hown2 hgr2 _; have HI2 : Hid (w2.ownsRow w.heap.size 35 1 (.slice ra2 m rc2) m (i16L tl.flatten).flatten ∧ Below w.heap.size w w2) := ⟨by simpa using hown2, HI.out.2.trans (below_grown HI.out.1 hgr2 HI.out.2.size)⟩; clear hown2 hgr2 HI f0 f3 f4 f5 f10 f11 f13 f14; obtain ⟨f0, f3, f4, f5, f9, f10, f11, f13, f14, f18⟩ := (HST.out.ext HI2.out.2).facts; rw [hg] at f4; rw [hi] at f10; clear f18 f9) | (refine wpList_appZ (u := .bool false) (n := m) (base := w.heap.size) 3 rfl rfl rfl rfl .i64 rfl under33 under3 Yaed.t4 (.bool false) inf4 zero4 rfl (by decide) rfl (by omega) HI2.out.2.size ?_; intro aa ac w3 haown hab haz; have HI3 : Hid (w3.ownsRow w.heap.size 35 1 (.slice ra2 m rc2) m (i16L tl.flatten).flatten ∧ w3.ownsRow w.heap.size 4 1 (.slice aa m ac) m (List.replicate m (.bool false)) ∧ Below w.heap.size w w3) := ⟨ownsRow_ext HI2.out.1 hab, haown, HI2.out.2.trans (hab.mono HI2.out.2.size)⟩; clear haown hab HI2 f0 f3 f4 f5 f10 f11 f13 f14; obtain ⟨f0, f3, f4, f5, f9, f10, f11, f13, f14, f18⟩ := (HST.out.ext HI3.out.2.2).facts; rw [hg] at f4; rw [hi] at f10; clear f18 f9))
      rcases hkw with ⟨hw0, hk, htn0⟩ | ⟨hwh, hk⟩ | ⟨hwh, hk5, hk6, hk7⟩
      · rw [hk] at f0
        have hm0 : m = 0 := by rw [HM.out, htn0]; rfl
        obtain ⟨rfl, rfl⟩ := haz hm0
        subst hm0
        refine wp_loop_rounds 1 ?_
        rw [rounds_succ]
        go_wp2_with fail
        refine wp_loop_rounds 1 ?_
        rw [rounds_succ]
        go_wp2_with fail
        refine wp_loop_rounds 1 ?_
        rw [rounds_succ]
        go_wp2_with fail
        refine wp_loop_rounds 1 ?_
        rw [rounds_succ]
        go_wp2_with fail
        refine wp_loop_rounds 1 ?_
        rw [rounds_succ]
        go_wp2_with (refine wpList_app1 w.heap.size rfl rfl under30 info35 rfl rfl (HI3.out.1.alloc _) (by exact heap_new rfl) (by rfl) (by intro u hu; simp at hu; subst hu; rfl) (by omega) (by omega) (by omega) (by have := HI3.out.2.2.size; simp; omega) ?_; intro g4 c4 w4 hown4 hgr4 _ _)
        have HI4 : Hid (w4.ownsRow w.heap.size 35 1 (.slice (some ⟨g4, 0, none⟩) 1 c4) 1 ((i16L tl.flatten).flatten ++ [.int .i16 s.wher]) ∧ Below w.heap.size w w4) := ⟨hown4, HI3.out.2.2.trans (((below_alloc _ _).mono HI3.out.2.2.size).trans (below_grown (HI3.out.1.alloc _) hgr4 (by have := HI3.out.2.2.size; simp; omega)))⟩
        clear hown4 hgr4 HI3
        refine wp_loop_rounds 2 ?_
        rw [rounds_succ]
        go_wp2_with (refine wpList_app1 w.heap.size rfl rfl under33 info4 rfl rfl (World.ownsRow_nil _ w.heap.size 4 1) (by exact heap_new rfl) (by rfl) (by intro u hu; simp at hu; subst hu; rfl) (by omega) (by omega) (by omega) (by have := HI4.out.2.size; simp; omega) ?_; intro g5 c5 w5 hown5 hgr5 _ _)
        have HI5 : Hid (w5.ownsRow w.heap.size 35 1 (.slice (some ⟨g4, 0, none⟩) 1 c4) 1 ((i16L tl.flatten).flatten ++ [.int .i16 s.wher]) ∧ w5.ownsRow w.heap.size 4 1 (.slice (some ⟨g5, 0, none⟩) 1 c5) 1 [.bool false] ∧ Below w.heap.size w w5) := ⟨ownsRow_ext (ownsRow_ext HI4.out.1 (below_alloc _ _)) ⟨hgr5.os, hgr5.tape, hgr5.output, hgr5.size, fun k hk => hgr5.block k hk (by intro e; cases e)⟩, hown5, HI4.out.2.trans (((below_alloc _ _).mono HI4.out.2.size).trans ⟨hgr5.os, hgr5.tape, hgr5.output, hgr5.size, fun k hk => hgr5.block k (by have := HI4.out.2.size; simp; omega) (by intro e; cases e)⟩)⟩
        clear hown5 hgr5 HI4
        rw [rounds_succ]
        go_wp2_with fail
        go_ret2
        have hwl : whL s = [s.wher.toNat] := by simp [whL, hw0]
        have hwi : ((s.wher.toNat : Nat) : Int) = s.wher := Int.toNat_of_nonneg hw0
        refine ⟨_, _, rfl, ?_, ?_, HI5.out.2.2⟩
        · rw [hwl, htn0]
          exact (Arr.of_owns (rows := i16L [s.wher.toNat]) (by have := HI5.out.1; rw [htn0] at this; simpa [i16L, hwi] using this) i16_one).mono (own_ge HI5.out.1)
        · rw [hwl, htn0]
          exact (Arr.of_owns (rows := boolL [false]) (by have := HI5.out.2.1; simpa [boolL] using this) bool_one).mono (own_ge HI5.out.2.1)
      · rw [hk] at f0
        rw [hwh] at f14
        refine wp_loop_rounds 1 ?_
        rw [rounds_succ]
        go_wp2_with fail
        refine wp_loop_rounds 1 ?_
        rw [rounds_succ]
        go_wp2_with fail
        refine wp_loop_rounds 1 ?_
        rw [rounds_succ]
        go_wp2_with fail
        refine wp_loop_rounds 1 ?_
        rw [rounds_succ]
        go_wp2_with fail
        refine wp_loop_rounds 1 ?_
        rw [rounds_succ]
        go_wp2_with fail
        refine wp_loop_rounds 1 ?_
        rw [rounds_succ]
        go_wp2_with fail
        go_ret2
        have hwl : whL s = [] := by simp [whL, hwh]
        refine ⟨_, _, rfl, ?_, ?_, HI3.out.2.2⟩
        · rw [hwl, List.append_nil]
          exact (Arr.of_owns (rows := i16L tl.flatten) (by rw [show (i16L tl.flatten).length = m by rw [HM.out]; unfold i16L; rw [List.length_map]]; exact HI3.out.1) i16_one).mono (own_ge HI3.out.1)
        · rw [hwl, List.length_nil, Nat.add_zero, ← HM.out]
          exact (Arr.of_owns (rows := boolL (List.replicate m false)) (by have := HI3.out.2.1; simpa [boolL] using this) bool_one).mono (own_ge HI3.out.2.1)
      · rw [hwh] at f14
        refine wp_loop_rounds 1 ?_
        rw [rounds_succ]
        go_wp2_with fail
        refine wp_loop_rounds 1 ?_
        rw [rounds_succ]
        go_wp2_with fail
        refine wp_loop_rounds 1 ?_
        rw [rounds_succ]
        go_wp2_with fail
        refine wp_loop_rounds 1 ?_
        rw [rounds_succ]
        go_wp2_with fail
        refine wp_loop_rounds 1 ?_
        rw [rounds_succ]
        go_wp2_with fail
        refine wp_loop_rounds 1 ?_
        rw [rounds_succ]
        go_wp2_with fail
        go_ret2
        have hwl : whL s = [] := by simp [whL, hwh]
        refine ⟨_, _, rfl, ?_, ?_, HI3.out.2.2⟩
        · rw [hwl, List.append_nil]
          exact (Arr.of_owns (rows := i16L tl.flatten) (by rw [show (i16L tl.flatten).length = m by rw [HM.out]; unfold i16L; rw [List.length_map]]; exact HI3.out.1) i16_one).mono (own_ge HI3.out.1)
        · rw [hwl, List.length_nil, Nat.add_zero, ← HM.out]
          exact (Arr.of_owns (rows := boolL (List.replicate m false)) (by have := HI3.out.2.1; simpa [boolL] using this) bool_one).mono (own_ge HI3.out.2.1)
end Go.Proofs.YgdaegDoor
