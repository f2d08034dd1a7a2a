import Derived.Test.YgdaegDoorCompare
import Derived.Laws.ResultCell
namespace Go.Proofs.YgdaegDoor
open Go.RowKit
set_option linter.unusedSimpArgs false
set_option linter.unusedVariables false
attribute [local go_sem] run_store_float
theorem results_cell2 {P : Program} {fn : Func} {p u : Tmp} {ty : TypeId} (h : fn.results = #[.cell p ty, .tmp u]) (tmps : Array Value) (w : World) (g : Nat) (t : TypeId) (cs : Array Value) (fr : Nat × Nat) (d : TypeDesc)
    (hp : tmps.getD p undef = .pointer (some ⟨g, 0, none⟩)) (hg : w.heap[g]? = some (.cells cs t fr))
    (hu : P.underlying ty = some d) (hd : (match d with | .struct _ | .array _ _ => true | _ => false) = true) (hi : (P.info? ty).map (·.size) = some cs.size) :
    (results fn tmps).run P w = .ok (.tuple #[.agg cs, tmps.getD u undef]) w := by
  rw [results_cell_tmp h, hp]
  simp [asAddr, run_loadVar_row w g t ty cs fr d hg hu hd hi]
def numB (k : Int) : Bool := k == 1 || k == 2
def toFN (v : V) : Nat := if v.k == 1 then itofN v.i else v.r
set_option maxHeartbeats 1000000 in
theorem number_any (v : V) (w : World) : Calls Yaed.prog 140 #[v.val] w fun r w' => r = .returned (.bool (numB v.k)) ∧ Below w.heap.size w w' := by
  obtain ⟨k, i, r, s⟩ := v
  unfold V.val numB
  simp only
  obtain ⟨b1, h1⟩ : ∃ b, (k == 1) = b := ⟨_, rfl⟩
  obtain ⟨b2, h2⟩ : ∃ b, (k == 2) = b := ⟨_, rfl⟩
  rw [h1, h2]
  cases b1 <;> cases b2 <;> (go_enter Yaed.func140, Yaed.ntmps140; go_wp2_with fail; go_ret; exact ⟨rfl, below_alloc _ _⟩)
set_option maxHeartbeats 1000000 in
theorem toF_any (v : V) (w : World) : Calls Yaed.prog 142 #[v.val] w fun r w' => r = .returned (.float .f64 (toFN v)) ∧ Below w.heap.size w w' := by
  obtain ⟨k, i, r, s⟩ := v
  unfold V.val toFN
  simp only
  obtain ⟨b1, h1⟩ : ∃ b, (k == 1) = b := ⟨_, rfl⟩
  rw [h1]
  cases b1
  · simp only [Bool.false_eq_true, if_false]
    go_enter Yaed.func142, Yaed.ntmps142
    go_wp2_with fail
    go_ret
    exact ⟨rfl, below_alloc _ _⟩
  · simp only [if_true]
    go_enter Yaed.func142, Yaed.ntmps142
    go_wp2_with fail
    refine (itof_any i _).mono ?_
    rintro e w1 ⟨rfl, rfl⟩
    go_wp2_with fail
    go_ret
    exact ⟨rfl, below_alloc _ _⟩
def addW (a b : Int) : Int := IntKind.i64.wrap (a + b)
def addB (a b : Int) : Bool := decide (0 ≤ b) == decide (a ≤ addW a b)
set_option maxHeartbeats 1000000 in
theorem addOK_any (a b : Int) (w : World) : Calls Yaed.prog 172 #[.int .i64 a, .int .i64 b] w fun r w' => r = .returned (.tuple #[.int .i64 (cond (addB a b) (addW a b) 0), .bool (addB a b)]) ∧ w' = w := by
  obtain ⟨s, hs⟩ : ∃ s, IntKind.i64.wrap (a + b) = s := ⟨_, rfl⟩
  have HS : Hid (addW a b = s) := hs
  obtain ⟨p, hp⟩ : ∃ p, addB a b = p := ⟨_, rfl⟩
  rw [HS.out, hp]
  have hpp : (decide (0 ≤ b) == decide (a ≤ s)) = p := by
    rw [← hp, addB, HS.out]
  clear hp
  cases p <;> (go_enter Yaed.func172, Yaed.ntmps172; go_wp2_with fail; go_ret2; exact ⟨rfl, rfl⟩)
set_option maxRecDepth 20000 in
set_option maxHeartbeats 1000000 in
theorem intArith_add (a b : Int) (w : World) : Calls Yaed.prog 141 #[.int .u8 0, .int .i64 a, .int .i64 b] w fun r w' => r = .returned (.tuple #[(intV (cond (addB a b) (addW a b) 0)).val, .bool (addB a b)]) ∧ Below w.heap.size w w' := by
  obtain ⟨s, hs⟩ : ∃ s, cond (addB a b) (addW a b) 0 = s := ⟨_, rfl⟩
  obtain ⟨p, hp⟩ : ∃ p, addB a b = p := ⟨_, rfl⟩
  have HS : Hid (cond (addB a b) (addW a b) 0 = s ∧ addB a b = p) := ⟨hs, hp⟩
  rw [hs, hp]
  clear hs hp
  go_enter Yaed.func141, Yaed.ntmps141
  go_wp2_with fail
  generalize hw0 : World.alloc _ _ = w0
  have HB0 : Hid (Below w.heap.size w w0 ∧ ∃ z, w0.heap[w.heap.size]? = some (.cells z 100 (0, 0)) ∧ z.size = 4) := by rw [← hw0]; exact ⟨below_alloc _ _, _, heap_alloc_new _ _, rfl⟩
  have hs0 : w.heap.size + 1 ≤ w0.heap.size := by rw [← hw0]; simp
  clear hw0
  refine (addOK_any a b _).mono ?_
  rintro e w1 ⟨rfl, rfl⟩
  rw [HS.out.1, HS.out.2]
  go_wp2_with fail
  refine (intV_any s _).mono ?_
  rintro e w2 ⟨rfl, hb2⟩
  have HB2 : Hid (Below w1.heap.size w1 w2) := hb2
  clear hb2
  unfold intV V.val
  go_wp2_with (refine wpList_put (ty := 100) (g := w.heap.size) rfl rfl rfl rfl size100 (by kernel_rfl) (by obtain ⟨z, h1, h2⟩ := HB0.out.2; exact ⟨z, (HB2.out.block _ (by omega)).trans h1, h2⟩) ?_; intro w3 h3 k3 s3; have HN3 : Hid (w3.heap[w.heap.size]? = some (.cells #[.int .u8 1, .int .i64 s, .float .f64 0, .string ⟨#[]⟩] 100 (0, 0))) := h3; have HK3 : Hid (Keep (fun k => k ≠ w.heap.size) w2 w3) := k3; clear h3 k3 s3)
  refine bodyPost_ret (results_cell2 rfl _ _ _ _ _ _ _ rfl HN3.out Yaed.underlying100 rfl size100) rfl ⟨rfl, ?_⟩
  exact HB0.out.1.trans ((HB2.out.mono (by omega)).trans (HK3.out.below (fun k hk => by show k ≠ w.heap.size; omega)))
end Go.Proofs.YgdaegDoor
