import Derived.Test.YgdaegDoorCompare
import Derived.Test.YgdaegDoorMid
import Derived.Test.YgdaegDoorRoots
import Derived.Test.YgdaegDoorStore
namespace Go.Proofs.YgdaegDoor
open Go.RowKit
set_option linter.unusedSimpArgs false
set_option linter.unusedVariables false
set_option maxRecDepth 20000 in
set_option maxHeartbeats 2000000 in
/-- sameValues of two keys of one value. -/
theorem sameValues_one (x y : V) (a ao ac b bo bc : Nat) (w : World) (ha : a < w.heap.size) (hb : b < w.heap.size) (hx : w.rangeAt a ao x.list) (hy : w.rangeAt b bo y.list) :
    Calls Yaed.prog 238 #[.slice (some ⟨a, ao, none⟩) 1 ac, .slice (some ⟨b, bo, none⟩) 1 bc] w fun r w' => r = .returned (.bool (cmpV x y == 0)) ∧ Below w.heap.size w w' := by
  have x0 := hx 0 _ rfl
  have x1 := hx 1 _ rfl
  have x2 := hx 2 _ rfl
  have x3 := hx 3 _ rfl
  have y0 := hy 0 _ rfl
  have y1 := hy 1 _ rfl
  have y2 := hy 2 _ rfl
  have y3 := hy 3 _ rfl
  simp only [Nat.add_zero] at x0 y0
  clear hx hy
  go_enter Yaed.func238, Yaed.ntmps238
  go_wp2_with fail
  refine wp_loop_rounds 2 ?_
  rw [rounds_succ]
  go_wp2_with fail
  refine wp_region_can (l := [_, _, _, _, _, _, _, _]) [(true, 0), (true, 1), (true, 2), (true, 3), (true, 4), (true, 5), (true, 6), (true, 7)] (fun W => W.cell? ⟨a, ao, none⟩ = some (.int .u8 x.k) ∧ W.cell? ⟨a, ao + 1, none⟩ = some (.int .i64 x.i) ∧ W.cell? ⟨a, ao + 2, none⟩ = some (.float .f64 x.r) ∧ W.cell? ⟨a, ao + 3, none⟩ = some (.string x.s) ∧ W.cell? ⟨b, bo, none⟩ = some (.int .u8 y.k) ∧ W.cell? ⟨b, bo + 1, none⟩ = some (.int .i64 y.i) ∧ W.cell? ⟨b, bo + 2, none⟩ = some (.float .f64 y.r) ∧ W.cell? ⟨b, bo + 3, none⟩ = some (.string y.s)) (by kernel_rfl) (by kernel_rfl) ⟨x0, x1, x2, x3, y0, y1, y2, y3⟩ ?_
  repeat (first | ((first | refine wpCan_q (v := ?_) rfl rfl rfl ?_ ?_ | refine wpCan_qg (v := ?_) rfl rfl (by rfl) ?_ ?_); rotate_left; (focus (rintro W ⟨q1, q2, q3, q4, q5, q6, q7, q8⟩; go_simp; first | done | exact rfl)); simp only [Act.put, List.setIfInBounds_toArray, List.set_cons_zero, List.set_cons_succ]) | (refine wpCan_skip rfl rfl (by rfl) ?_; simp only [Act.put, List.setIfInBounds_toArray, List.set_cons_zero, List.set_cons_succ]))
  refine wpCan_nil ?_
  generalize hwd : World.drew _ = wd
  have HBd : Hid (Below w.heap.size w wd) := by rw [← hwd]; exact (Below.refl _ _).drew
  clear hwd x0 x1 x2 x3 y0 y1 y2 y3
  go_wp2_with fail
  refine (compare_any x y _).mono ?_
  rintro e w1 ⟨rfl, hb1⟩
  have HB1 : Hid (Below w.heap.size w w1) := HBd.out.trans (hb1.mono HBd.out.size)
  clear hb1
  obtain ⟨z, hz⟩ : ∃ z, (cmpV x y == 0) = z := ⟨_, rfl⟩
  obtain ⟨c, hc⟩ : ∃ c, cmpV x y = c := ⟨_, rfl⟩
  rw [hc] at hz ⊢
  have HZ : Hid ((cmpV x y == 0) = z) := (show (cmpV x y == 0) = z by rw [hc]; exact hz)
  clear hc
  cases z with
  | true =>
    have hz' : (c != 0) = false := by simpa using hz
    clear hz
    go_wp2_with fail
    rw [rounds_succ]
    go_wp2_with fail
    go_ret
    exact ⟨by rw [HZ.out]; rfl, HB1.out⟩
  | false =>
    have hz' : (c != 0) = true := by simpa using hz
    go_wp2_with fail
    go_ret
    exact ⟨by rw [HZ.out]; rfl, HB1.out⟩
set_option maxRecDepth 20000 in
set_option maxHeartbeats 2000000 in
/-- before of two keys of one value, rising. -/
theorem before_one (x y : V) (a ao ac b bo bc d do_ dc : Nat) (w : World) (ha : a < w.heap.size) (hb : b < w.heap.size) (hd : d < w.heap.size) (hx : w.rangeAt a ao x.list) (hy : w.rangeAt b bo y.list) (hdc : w.cell? ⟨d, do_, none⟩ = some (.bool false)) :
    Calls Yaed.prog 229 #[.slice (some ⟨a, ao, none⟩) 1 ac, .slice (some ⟨b, bo, none⟩) 1 bc, .slice (some ⟨d, do_, none⟩) 1 dc] w fun r w' => r = .returned (.bool (decide (cmpV x y < 0))) ∧ Below w.heap.size w w' := by
  have x0 := hx 0 _ rfl
  have x1 := hx 1 _ rfl
  have x2 := hx 2 _ rfl
  have x3 := hx 3 _ rfl
  have y0 := hy 0 _ rfl
  have y1 := hy 1 _ rfl
  have y2 := hy 2 _ rfl
  have y3 := hy 3 _ rfl
  simp only [Nat.add_zero] at x0 y0
  clear hx hy
  go_enter Yaed.func229, Yaed.ntmps229
  go_wp2_with fail
  refine wp_loop_rounds 2 ?_
  rw [rounds_succ]
  go_wp2_with fail
  refine wp_region_can (l := [_, _, _, _, _, _, _, _]) [(true, 0), (true, 1), (true, 2), (true, 3), (true, 4), (true, 5), (true, 6), (true, 7)] (fun W => W.cell? ⟨a, ao, none⟩ = some (.int .u8 x.k) ∧ W.cell? ⟨a, ao + 1, none⟩ = some (.int .i64 x.i) ∧ W.cell? ⟨a, ao + 2, none⟩ = some (.float .f64 x.r) ∧ W.cell? ⟨a, ao + 3, none⟩ = some (.string x.s) ∧ W.cell? ⟨b, bo, none⟩ = some (.int .u8 y.k) ∧ W.cell? ⟨b, bo + 1, none⟩ = some (.int .i64 y.i) ∧ W.cell? ⟨b, bo + 2, none⟩ = some (.float .f64 y.r) ∧ W.cell? ⟨b, bo + 3, none⟩ = some (.string y.s)) (by kernel_rfl) (by kernel_rfl) ⟨x0, x1, x2, x3, y0, y1, y2, y3⟩ ?_
  repeat (first | ((first | refine wpCan_q (v := ?_) rfl rfl rfl ?_ ?_ | refine wpCan_qg (v := ?_) rfl rfl (by rfl) ?_ ?_); rotate_left; (focus (rintro W ⟨q1, q2, q3, q4, q5, q6, q7, q8⟩; go_simp; first | done | exact rfl)); simp only [Act.put, List.setIfInBounds_toArray, List.set_cons_zero, List.set_cons_succ]) | (refine wpCan_skip rfl rfl (by rfl) ?_; simp only [Act.put, List.setIfInBounds_toArray, List.set_cons_zero, List.set_cons_succ]))
  refine wpCan_nil ?_
  generalize hwd : World.drew _ = wd
  have HBd : Hid (Below w.heap.size w wd) := by rw [← hwd]; exact (Below.refl _ _).drew
  clear hwd x0 x1 x2 x3 y0 y1 y2 y3
  go_wp2_with fail
  refine (compare_any x y _).mono ?_
  rintro e w1 ⟨rfl, hb1⟩
  have HB1 : Hid (Below w.heap.size w w1) := HBd.out.trans (hb1.mono HBd.out.size)
  clear hb1
  replace hdc : w1.cell? ⟨d, do_, none⟩ = some (.bool false) := by rw [HB1.out.cell (p := ⟨d, _, none⟩) hd]; exact hdc
  obtain ⟨c, hc⟩ : ∃ c, cmpV x y = c := ⟨_, rfl⟩
  rw [hc]
  have HC : Hid (cmpV x y = c) := hc
  clear hc
  obtain ⟨z, hz⟩ : ∃ z, (c == 0) = z := ⟨_, rfl⟩
  cases z with
  | true =>
    have hc0 : c = 0 := by simpa using hz
    subst hc0
    clear hz
    go_wp2_with fail
    rw [rounds_succ]
    go_wp2_with fail
    go_ret
    exact ⟨by rw [HC.out]; rfl, HB1.out⟩
  | false =>
    have hz' : (c != 0) = true := by simpa using hz
    go_wp2_with fail
    go_ret
    exact ⟨by rw [HC.out]; first | rfl | simp, HB1.out⟩
set_option maxHeartbeats 1000000 in
/-- before of no keys. -/
theorem before_none (av bv dv : Value) (cap : Nat) (oa : Option Addr) (hav : av = .slice oa 0 cap) (w : World) :
    Calls Yaed.prog 229 #[av, bv, dv] w fun r w' => r = .returned (.bool false) ∧ Below w.heap.size w w' := by
  subst hav
  go_enter Yaed.func229, Yaed.ntmps229
  go_wp2_with fail
  refine wp_loop_rounds 1 ?_
  rw [rounds_succ]
  go_wp2_with fail
  go_ret
  exact ⟨rfl, Below.refl _ _⟩
set_option maxHeartbeats 1000000 in
/-- window without a limit. -/
theorem window_none (rv : Value) (l o : Int) (hl : l < 0) (w : World) :
    Calls Yaed.prog 239 #[rv, .int .i64 l, .int .i64 o] w fun r w' => r = .returned rv ∧ w' = w := by
  go_enter Yaed.func239, Yaed.ntmps239
  go_wp2_with fail
  go_ret
  exact ⟨rfl, rfl⟩
set_option maxHeartbeats 1000000 in
/-- A SELECT with a GROUP BY is grouped. -/
theorem grouped_yes (ps : Nat) (ga : Option Addr) (gl gc : Nat) (hg : 0 < gl) (w : World) (h4 : w.cell? ⟨ps, 4, none⟩ = some (.slice ga gl gc)) :
    Calls Yaed.prog 226 #[.pointer (some ⟨ps, 0, none⟩)] w fun r w' => r = .returned (.bool true) ∧ w' = w := by
  have hg' : (0 : Int) < gl := by omega
  go_enter Yaed.func226, Yaed.ntmps226
  go_wp2_with fail
  go_ret
  exact ⟨rfl, rfl⟩
end Go.Proofs.YgdaegDoor
