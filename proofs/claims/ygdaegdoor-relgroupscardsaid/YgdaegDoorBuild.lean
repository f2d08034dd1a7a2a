import Derived.Test.YgdaegDoorMem
import Derived.Test.YgdaegDoorCan
import Derived.Test.YgdaegDoorNorm
set_option linter.unusedSimpArgs false
set_option linter.unusedVariables false
namespace Go.Proofs.YgdaegDoor
open Go.RowKit
attribute [local go_sem] run_store_float
attribute [local go_sem ↓] Go.wp_at_zero Go.wp_at_succ

theorem grown_of_below {w w' : World} (h : Below w.heap.size w w') : w.grownBy w' none := ⟨h.os, h.tape, h.output, h.size, fun k hk _ => h.block k hk⟩
theorem ownsRow_ext {w w' : World} {base : Nat} {e : TypeId} {size : Nat} {v : Value} {n : Nat} {xs : List Value} (h : w.ownsRow base e size v n xs) (hb : Below w.heap.size w w') : w'.ownsRow base e size v n xs :=
  h.kept (grown_of_below hb) (by cases v.ownBlock <;> simp)
theorem BAt.ext {w w' : World} {pb : Nat} {es : List E} {X : Nat → Prop} (h : BAt w pb es X) (hb : Below w.heap.size w w') : BAt w' pb es X := by
  obtain ⟨av, hpb, hown, hav, hX⟩ := h
  exact ⟨av, (hb.block pb (block_lt hpb)).trans hpb, ownsRow_ext hown hb, hav, hX⟩
theorem below_alloc (w : World) (o : Obj) : Below w.heap.size w (w.alloc o) := (Below.refl _ _).alloc (Nat.le_refl _) _
theorem Keep.ext {X : Nat → Prop} {w w' : World} (hX : Old X w) (hb : Below w.heap.size w w') : Keep X w w' := Keep.of_below hb hX

set_option maxHeartbeats 1000000 in
theorem add_any (e : E) (pb : Nat) (es : List E) (X : Nat → Prop) (w : World) (hX : Old X w) (hn : es.length < 30000) (hb : BAt w pb es X) :
    Calls Yaed.prog 74 #[.pointer (some ⟨pb, 0, none⟩), e.val] w fun r w' => r = .returned (.int .i16 es.length) ∧ BAt w' pb (es ++ [e]) X ∧ Keep X w w' := by
  obtain ⟨av, hpb, hown, hav, hXpb⟩ := hb
  have hlt : pb < w.heap.size := (Array.getElem?_eq_some_iff.1 hpb).1
  have hc : w.cell? ⟨pb, 0, none⟩ = some av := by simp [World.cell?, hpb]
  have hfz : w.frozen? ⟨pb, 0, none⟩ = false := by simp [World.frozen?, hpb]
  have HPB : Hid (w.heap[pb]? = some (.cells #[av] 111 (0, 0))) := hpb
  have HO : Hid (w.ownsRow (pb + 1) 150 12 av es.length (es.flatMap E.list)) := hown
  clear hpb hown
  unfold E.val
  go_enter Yaed.func74, Yaed.ntmps74
  go_wp2_with fail
  generalize hw1 : w.alloc (Obj.cells #[Value.int IntKind.u8 e.op, Value.int IntKind.i16 e.a, Value.int IntKind.i16 e.b, Value.int IntKind.i16 e.c,
          Value.int IntKind.u8 e.v.k, Value.int IntKind.i64 e.v.i, Value.float FloatKind.f64 e.v.r, Value.string e.v.s,
          Value.int IntKind.u64 e.man, Value.int IntKind.i8 e.q, Value.string e.name, Value.string e.table] 150) = w1
  have HW1 : Hid (w1.heap[w.heap.size]? = some (.cells e.list.toArray 150 (0, 0))) := by
    rw [← hw1]; exact heap_alloc_new w _
  have hc1 : w1.cell? ⟨pb, 0, none⟩ = some av := by rw [← hw1]; simp [World.cell?_alloc_some, hc]
  have hsz1 : w1.heap.size = w.heap.size + 1 := by rw [← hw1]; simp
  have HOW1 : Hid (w1.ownsRow (pb + 1) 150 12 av es.length (es.flatMap E.list)) := by rw [← hw1]; exact HO.out.alloc _
  have HPB1 : Hid (w1.heap[pb]? = some (.cells #[av] 111 (0, 0))) := by rw [← hw1]; exact (Below.heap_alloc w _ pb hlt).trans HPB
  have HKW : Hid (Keep X w w1) := by rw [← hw1]; exact Keep.refl.alloc hX _
  clear hw1
  refine wp_region_can (l := [_, _, _, _, _, _, _, _]) [(true, 0), (true, 1), (true, 2), (true, 3), (true, 4), (true, 5), (false, 6), (false, 7)]
     (fun W => W.cell? ⟨pb, 0, none⟩ = some av ∧ W.heap[w.heap.size]? = some (.cells #[Value.int IntKind.u8 e.op, Value.int IntKind.i16 e.a, Value.int IntKind.i16 e.b, Value.int IntKind.i16 e.c,
          Value.int IntKind.u8 e.v.k, Value.int IntKind.i64 e.v.i, Value.float FloatKind.f64 e.v.r, Value.string e.v.s,
          Value.int IntKind.u64 e.man, Value.int IntKind.i8 e.q, Value.string e.name, Value.string e.table] 150 (0, 0))) (by kernel_rfl) (by kernel_rfl) ⟨by simp [hc1], HW1⟩ ?_
  repeat (refine wpCan_q (v := ?_) rfl rfl rfl ?_ ?_; rotate_left; (focus (rintro W ⟨hW, hW1⟩; have hr := fun j => cell_of_row W _ j _ _ _ hW1; clear hW1; go_simp; first | done | exact rfl)); simp only [Act.put, List.setIfInBounds_toArray, List.set_cons_zero, List.set_cons_succ])
  refine wpCan_e rfl rfl (fun K hK => ?_)
  go_simp
  have hbx := HW1.out
  have hnb : ∀ (o : Obj), ((w1.alloc o).drew).heap[w.heap.size + 1]? = some o := fun o => by
    have := heap_alloc_new w1 o; rw [hsz1] at this; exact this
  have hob : ∀ (o : Obj) (k : Nat), k < w1.heap.size → ((w1.alloc o).drew).heap[k]? = w1.heap[k]? := fun o k hk => Below.heap_alloc w1 o k hk
  have hown1 : ∀ (o : Obj), ((w1.alloc o).drew).ownsRow (pb + 1) 150 12 av es.length (es.flatMap E.list) := fun o => by
    have := (HOW1.out).alloc o
    exact this
  have hszo : ∀ (o : Obj), ((w1.alloc o).drew).heap.size = w.heap.size + 2 := fun o => by simp [hsz1]
  generalize hw2 : (w1.alloc (Obj.cells #[Value.int IntKind.u8 e.op, Value.int IntKind.i16 e.a, Value.int IntKind.i16 e.b, Value.int IntKind.i16 e.c,
          Value.int IntKind.u8 e.v.k, Value.int IntKind.i64 e.v.i, Value.float FloatKind.f64 e.v.r, Value.string e.v.s,
          Value.int IntKind.u64 e.man, Value.int IntKind.i8 e.q, Value.string e.name, Value.string e.table] 150)).drew = w2
  have hnb2 : w2.heap[w.heap.size + 1]? = some (.cells e.list.toArray 150 (0, 0)) := by rw [← hw2]; exact hnb _
  have hob2 : ∀ k, k < w1.heap.size → w2.heap[k]? = w1.heap[k]? := by rw [← hw2]; exact hob _
  have hown2 := hown1 (Obj.cells #[Value.int IntKind.u8 e.op, Value.int IntKind.i16 e.a, Value.int IntKind.i16 e.b, Value.int IntKind.i16 e.c,
          Value.int IntKind.u8 e.v.k, Value.int IntKind.i64 e.v.i, Value.float FloatKind.f64 e.v.r, Value.string e.v.s,
          Value.int IntKind.u64 e.man, Value.int IntKind.i8 e.q, Value.string e.name, Value.string e.table] 150)
  rw [hw2] at hown2
  have hsz2 : w2.heap.size = w.heap.size + 2 := by rw [← hw2]; exact hszo _
  have hK2 : Keep X w w2 := by rw [← hw2]; exact (HKW.out.alloc hX _).drew
  clear hw2 hnb hob hown1 hszo
  refine hK _ _ ⟨⟨?_, ?_⟩, ?_⟩
  · rw [World.cell?_of_block (w := w1) (hob2 pb (by omega))]; exact hc1
  · rw [hob2 _ (by omega)]; exact HW1
  clear hK K
  obtain ⟨ii, z, hi, hz, hsi, hby, hzs⟩ := info_of info150
  refine wpCan_e rfl rfl (fun K hK => ?_)
  refine wp_append_lies _ (.tmp 9) (.tmp 11) 36 rfl (pb + 1) 150 ii z 12 96 Yaed.underlying36 hi hz hsi hby hzs (by omega) av es.length (es.flatMap E.list) rfl hown2 ⟨w.heap.size + 1, 0, none⟩ 1 1 e.list rfl rfl
    (World.news_of_block hnb2) e.one (by omega) (by unfold maxLen; omega) (by omega) (by omega) _ rfl ?_
  intro g cap w3 hown3 hgrow hat hlt3
  have hpbo : some pb ≠ av.ownBlock := fun e => by have := (hown2.lt pb e.symm).1; omega
  have hk3 : Keep X w w3 := hK2.grown hX hgrow (fun k hk => hav k hk)
  have hpb3 : w3.heap[pb]? = some (.cells #[av] 111 (0, 0)) := by
    rw [hgrow.block pb (by omega) hpbo, hob2 pb (by omega)]; exact HPB1
  refine hK _ _ ⟨⟨?_, ?_⟩, ?_⟩
  · simp [World.cell?, hpb3]
  · rw [hgrow.block _ (by omega) (fun e => by have := (HO.out.lt _ e.symm).2; omega), hob2 _ (by omega)]; exact HW1
  clear hK K
  refine wpCan_nil ?_
  have hc3 : w3.cell? ⟨pb, 0, none⟩ = some av := by simp [World.cell?, hpb3]
  have hf3 : w3.frozen? ⟨pb, 0, none⟩ = false := by simp [World.frozen?, hpb3]
  have HPB3 : Hid (w3.heap[pb]? = some (.cells #[av] 111 (0, 0))) := hpb3
  have HOWN3 : Hid (w3.ownsRow (pb + 1) 150 12 (.slice (some ⟨g, 0, none⟩) (es.length + 1) cap) (es.length + 1) (es.flatMap E.list ++ e.list)) := hown3
  have HAT : Hid (av.ownBlock = some g ∨ g = w2.heap.size) := hat
  have HK3 : Hid (Keep X w w3) := hk3
  clear hown3 hat hk3 hpb3 hgrow hown2 hnb2 hob2 hK2 hi hz hsi hby hzs hbx
  simp only [Act.put, List.setIfInBounds_toArray, List.set_cons_zero, List.set_cons_succ]
  go_wp2_with fail
  go_ret
  refine ⟨rfl, ⟨_, heap_set HPB3.out _, ?_, ?_, hXpb⟩, HK3.out.setCell hXpb _⟩
  · have := ownsRow_setCell_below HOWN3.out (a := ⟨pb, 0, none⟩) (by show pb < pb + 1; omega) (Value.slice (some ⟨g, 0, none⟩) (es.length + 1) cap)
    simpa using this
  · intro g' hg'
    have hg : g = g' := by simpa [Value.ownBlock] using hg'
    subst hg
    rcases HAT.out with h | h
    · exact hav g h
    · intro hx
      have := hX g hx
      omega

def leafE (op : Int) (v : V) : E := ⟨op, -1, -1, -1, v, 0, 0, ⟨#[]⟩, ⟨#[]⟩⟩
def colE (n : ByteArray) : E := ⟨5, -1, -1, -1, V0, 0, 0, n, ⟨#[]⟩⟩
def opE (op a b : Int) : E := ⟨op, a, b, -1, V0, 0, 0, ⟨#[]⟩, ⟨#[]⟩⟩
def aggE (n : ByteArray) (a : Int) : E := ⟨26, a, -1, -1, V0, 0, 0, n, ⟨#[]⟩⟩
def intV (n : Int) : V := ⟨1, n, 0, ⟨#[]⟩⟩


set_option maxHeartbeats 1000000 in
theorem leaf_any (pb : Nat) (es : List E) (X : Nat → Prop) (w : World) (hX : Old X w) (hn : es.length < 30000) (hb : BAt w pb es X) (op : Int) (v : V) :
    Calls Yaed.prog 115 #[.pointer (some ⟨pb, 0, none⟩), .int .u8 op, v.val] w fun r w' => r = .returned (.int .i16 es.length) ∧ BAt w' pb (es ++ [leafE op v]) X ∧ Keep X w w' := by
  have Hb : Hid (BAt w pb es X) := hb
  clear hb
  obtain ⟨k, i, r, s⟩ := v
  unfold V.val
  simp only []
  go_enter Yaed.func115, Yaed.ntmps115
  go_wp2_with fail
  refine (add_any (leafE op ⟨k, i, r, s⟩) pb es X _ (hX.keep (by simp)) hn (Hb.out.ext (below_alloc _ _))).mono ?_
  rintro e w' ⟨rfl, h1, h2⟩
  go_wp2_with fail
  go_ret
  exact ⟨rfl, h1, (Keep.ext hX (below_alloc _ _)).trans h2⟩

set_option maxHeartbeats 1000000 in
theorem p_any (pb : Nat) (es : List E) (X : Nat → Prop) (w : World) (hX : Old X w) (hn : es.length < 30000) (hb : BAt w pb es X) (v : V) :
    Calls Yaed.prog 114 #[.pointer (some ⟨pb, 0, none⟩), v.val] w fun r w' => r = .returned (.int .i16 es.length) ∧ BAt w' pb (es ++ [leafE 4 (norm v)]) X ∧ Keep X w w' := by
  have Hb : Hid (BAt w pb es X) := hb
  clear hb
  obtain ⟨k, i, r, s⟩ := v
  unfold V.val
  simp only []
  go_enter Yaed.func114, Yaed.ntmps114
  go_wp2_with fail
  refine (norm_any ⟨k, i, r, s⟩ _).mono ?_
  rintro e w1 ⟨rfl, h1⟩
  have hb1 : Below w.heap.size w w1 := (below_alloc _ _).trans (h1.mono (by simp))
  have Hb1 : Hid (Below w.heap.size w w1) := hb1
  clear h1 hb1
  go_wp2_with fail
  refine (leaf_any pb es X w1 (hX.keep Hb1.out.size) hn (Hb.out.ext Hb1.out) 4 (norm ⟨k, i, r, s⟩)).mono ?_
  rintro e w' ⟨rfl, h1, h2⟩
  go_wp2_with fail
  go_ret
  exact ⟨rfl, h1, (Keep.ext hX Hb1.out).trans h2⟩

theorem intV_any (n : Int) (w : World) : Calls Yaed.prog 70 #[.int .i64 n] w fun r w' => r = .returned (intV n).val ∧ Below w.heap.size w w' := by
  go_enter Yaed.func70, Yaed.ntmps70
  go_wp2_with fail
  go_returns
  exact ⟨rfl, by go_grown⟩

set_option maxHeartbeats 1000000 in
theorem i_any (pb : Nat) (es : List E) (X : Nat → Prop) (w : World) (hX : Old X w) (hn : es.length < 30000) (hb : BAt w pb es X) (n : Int) :
    Calls Yaed.prog 57 #[.pointer (some ⟨pb, 0, none⟩), .int .i64 n] w fun r w' => r = .returned (.int .i16 es.length) ∧ BAt w' pb (es ++ [leafE 0 (intV n)]) X ∧ Keep X w w' := by
  have Hb : Hid (BAt w pb es X) := hb
  clear hb
  go_enter Yaed.func57, Yaed.ntmps57
  go_wp2_with fail
  refine (intV_any n _).mono ?_
  rintro e w1 ⟨rfl, h1⟩
  have Hb1 : Hid (Below w.heap.size w w1) := h1
  clear h1
  go_wp2_with fail
  refine (leaf_any pb es X w1 (hX.keep Hb1.out.size) hn (Hb.out.ext Hb1.out) 0 (intV n)).mono ?_
  rintro e w' ⟨rfl, h1, h2⟩
  go_wp2_with fail
  go_ret
  exact ⟨rfl, h1, (Keep.ext hX Hb1.out).trans h2⟩

set_option maxHeartbeats 1000000 in
theorem col_any (pb : Nat) (es : List E) (X : Nat → Prop) (w : World) (hX : Old X w) (hn : es.length < 30000) (hb : BAt w pb es X) (n : ByteArray) :
    Calls Yaed.prog 45 #[.pointer (some ⟨pb, 0, none⟩), .string n] w fun r w' => r = .returned (.int .i16 es.length) ∧ BAt w' pb (es ++ [colE n]) X ∧ Keep X w w' := by
  have Hb : Hid (BAt w pb es X) := hb
  clear hb
  go_enter Yaed.func45, Yaed.ntmps45
  go_wp2_with fail
  refine (add_any (colE n) pb es X _ hX hn Hb.out).mono ?_
  rintro e w' ⟨rfl, h1, h2⟩
  go_wp2_with fail
  go_ret
  exact ⟨rfl, h1, h2⟩

set_option maxHeartbeats 1000000 in
theorem op_any (pb : Nat) (es : List E) (X : Nat → Prop) (w : World) (hX : Old X w) (hn : es.length < 30000) (hb : BAt w pb es X) (op a c : Int) :
    Calls Yaed.prog 58 #[.pointer (some ⟨pb, 0, none⟩), .int .u8 op, .int .i16 a, .int .i16 c] w fun r w' => r = .returned (.int .i16 es.length) ∧ BAt w' pb (es ++ [opE op a c]) X ∧ Keep X w w' := by
  have Hb : Hid (BAt w pb es X) := hb
  clear hb
  go_enter Yaed.func58, Yaed.ntmps58
  go_wp2_with fail
  refine (add_any (opE op a c) pb es X _ hX hn Hb.out).mono ?_
  rintro e w' ⟨rfl, h1, h2⟩
  go_wp2_with fail
  go_ret
  exact ⟨rfl, h1, h2⟩

set_option maxHeartbeats 1000000 in
theorem agg_any (pb : Nat) (es : List E) (X : Nat → Prop) (w : World) (hX : Old X w) (hn : es.length < 30000) (hb : BAt w pb es X) (n : ByteArray) (a : Int) :
    Calls Yaed.prog 48 #[.pointer (some ⟨pb, 0, none⟩), .string n, .int .i16 a] w fun r w' => r = .returned (.int .i16 es.length) ∧ BAt w' pb (es ++ [aggE n a]) X ∧ Keep X w w' := by
  have Hb : Hid (BAt w pb es X) := hb
  clear hb
  go_enter Yaed.func48, Yaed.ntmps48
  go_wp2_with fail
  refine (add_any (aggE n a) pb es X _ hX hn Hb.out).mono ?_
  rintro e w' ⟨rfl, h1, h2⟩
  go_wp2_with fail
  go_ret
  exact ⟨rfl, h1, h2⟩
end Go.Proofs.YgdaegDoor
