import Derived.Test.YgdaegDoorRowA
import Derived.Test.YgdaegDoorFin
import Derived.Test.YgdaegDoorWp
namespace Go.Proofs.YgdaegDoor
open Go.RowKit
set_option linter.unusedSimpArgs false
set_option linter.unusedVariables false
theorem GR.put {w : World} {GB LB MB B SB : Nat} {gv least most : V} {na : Option Addr} {nc : Nat} {ns : List V} {wr wr' : World} (h : GR w GB LB MB B gv least most na nc ns wr) (hG : GB < B) (hL : LB < B) (hM : MB < B) (hwB : w.heap.size ≤ B) (hSB : B ≤ SB) (hne : ∀ g, (Value.slice na ns.length nc).ownBlock = some g → g ≠ SB) (hk : Keep (fun k => k ≠ SB) wr wr') : GR w GB LB MB B gv least most na nc ns wr' :=
  ⟨h.bel.trans (hk.below (fun k hk => by show k ≠ SB; omega)), Nat.le_trans h.sz hk.size, (hk.block _ (by show GB ≠ SB; omega)).trans h.hg, (hk.block _ (by show LB ≠ SB; omega)).trans h.hl, (hk.block _ (by show MB ≠ SB; omega)).trans h.hm, ownsRow_blk h.own (fun g hg => hk.block g (hne g hg))⟩
set_option maxRecDepth 20000 in
set_option maxHeartbeats 4000000 in
/-- A slice of seven values is built. -/
theorem wp_bs7 {o : Oper} {a : Act} {w : World} {K : Act → World → Prop} {Q : Exit → Act → World → Prop} {x0 x1 x2 x3 x4 x5 x6 : Operand} (v0 v1 v2 v3 v4 v5 v6 : V)
    (ho : o.op = .buildSlice 94 7 #[(0, x0), (1, x1), (2, x2), (3, x3), (4, x4), (5, x5), (6, x6)]) (h0 : a.eval x0 = v0.val) (h1 : a.eval x1 = v1.val) (h2 : a.eval x2 = v2.val) (h3 : a.eval x3 = v3.val) (h4 : a.eval x4 = v4.val) (h5 : a.eval x5 = v5.val) (h6 : a.eval x6 = v6.val)
    (h : K (a.put o.dst (.slice (some ⟨w.heap.size, 0, none⟩) 7 7)) (w.alloc (Obj.cells (flatL [v0, v1, v2, v3, v4, v5, v6]).toArray 100))) : o.wp Yaed.prog a w K Q := by
  obtain ⟨op, dst, c3, c4, c5⟩ := o
  simp only at ho h
  subst ho
  unfold Oper.wp
  unfold V.val at h0 h1 h2 h3 h4 h5 h6
  generalize a.eval = ev at h0 h1 h2 h3 h4 h5 h6 ⊢
  simp only [flatL, V.list, List.cons_append, List.nil_append, List.append_nil] at h
  go_simp
  exact h
theorem call64 : ∀ args w, (callFunc 64 args).run Yaed.prog w = .ok (.enter 64 args) w := by intro args w; go_simp
theorem call70 : ∀ args w, (callFunc 70 args).run Yaed.prog w = .ok (.enter 70 args) w := by intro args w; go_simp
set_option maxRecDepth 20000 in
set_option maxHeartbeats 16000000 in
/-- groupRow. -/
theorem groupRow_any (n ci : Nat) (hc : ci < n) (rs : List (List V)) (hrl : rs.length ≤ 32) (rb ro rc : Nat) (g : List Nat) (hg : ∀ k ∈ g, k < rs.length) (hgl : g.length ≤ 32) (mv : Value) (okg : Nat → Prop) (gv : V) (w : World) (hLR : LR w rb ro n rs) (hmv : Arr w okg mv 1 (i64L g)) :
    Calls Yaed.prog 50 #[.slice (some ⟨rb, ro, none⟩) rs.length rc, mv, gv.val, .int .i64 ci] w fun r w' => ∃ q, r = .returned (.slice (some ⟨q, 0, none⟩) 7 7) ∧ w.heap.size ≤ q ∧ q < w'.heap.size ∧ (∀ t, t < 7 → w'.rangeAt q (t * 4) (rowVal gv g.length (g.map (cellV rs ci)) t).list) ∧ Below w.heap.size w w' := by
  obtain ⟨ga, gc, rfl, hgc⟩ := i64_at hmv
  have HLR : Hid (LR w rb ro n rs) := hLR
  have HGC : Hid (∀ j (hj : j < g.length), ∃ b o, ga = some ⟨b, o, none⟩ ∧ okg b ∧ b < w.heap.size ∧ w.cell? ⟨b, o + j, none⟩ = some (.int .i64 (g[j] : Nat))) := hgc
  have HG : Hid (∀ k ∈ g, k < rs.length) := hg
  obtain ⟨RV, hRV⟩ : ∃ RV : Nat → V, rowVal gv g.length (g.map (cellV rs ci)) = RV := ⟨_, rfl⟩
  rw [hRV]
  have HRV : Hid (rowVal gv g.length (g.map (cellV rs ci)) = RV) := hRV
  clear hLR hgc hg hmv hRV
  unfold V.val
  go_enter Yaed.func50, Yaed.ntmps50
  go_wp2_with fail
  generalize hw0 : World.alloc (World.alloc (World.alloc _ _) _) _ = w0
  obtain ⟨MB, hMB⟩ : ∃ MB, w.heap.size + 1 + 1 = MB := ⟨_, rfl⟩
  obtain ⟨LB, hLB⟩ : ∃ LB, w.heap.size + 1 = LB := ⟨_, rfl⟩
  obtain ⟨GB, hGB⟩ : ∃ GB, w.heap.size = GB := ⟨_, rfl⟩
  rw [hMB, hLB, hGB]
  obtain ⟨B, hB⟩ : ∃ B, w0.heap.size = B := ⟨_, rfl⟩
  have hO : w.heap.size ≤ GB ∧ GB < LB ∧ LB < MB ∧ MB < B ∧ B ≤ w0.heap.size := by
    have h1 : w0.heap.size = w.heap.size + 1 + 1 + 1 := by rw [← hw0]; simp
    omega
  have HGR0 : Hid (GR w GB LB MB B gv V0 V0 none 0 [] w0) := by
    refine ⟨?_, hO.2.2.2.2, ?_, ?_, ?_, World.ownsRow_nil _ _ _ _⟩
    · rw [← hw0]; exact ((below_alloc _ _).trans ((below_alloc _ _).mono (by simp))).trans ((below_alloc _ _).mono (by simp; omega))
    · rw [← hw0, ← hGB]; exact (heap_old (by simp; omega)).trans ((heap_old (by simp)).trans (heap_new rfl))
    · rw [← hw0, ← hLB]; exact (heap_old (by simp)).trans (heap_new (by simp))
    · rw [← hw0, ← hMB]; exact heap_new (by simp)
  clear hw0 hB hMB hLB hGB
  go_loopw [22, 9, 10] (fun cj cc cn wr => ∃ j : Nat, j ≤ g.length ∧ cj = .int .i64 j ∧ ∃ (cnt : Nat) (na : Option Addr) (ln nc : Nat), cc = .int .i64 cnt ∧ cnt ≤ j ∧ cn = .slice na ln nc ∧ ∃ (least most : V) (ns : List V), Hid (ln = ns.length) ∧ ln ≤ j ∧ Hid (foldA .min ((g.take j).map (cellV rs ci)) = (least, cnt)) ∧ Hid (foldA .max ((g.take j).map (cellV rs ci)) = (most, cnt)) ∧ Hid (numsL ((g.take j).map (cellV rs ci)) = ns) ∧ Hid (GR w GB LB MB B gv least most na nc ns wr)) (fun cj _ _ _ => g.length - (intOf cj).toNat)
  case atStart => exact ⟨0, Nat.zero_le _, rfl, 0, none, 0, 0, rfl, Nat.le_refl _, rfl, V0, V0, [], rfl, Nat.le_refl _, rfl, rfl, rfl, HGR0⟩
  case round =>
    obtain ⟨j, hj, rfl, cnt, na, ln, nc, rfl, hcj, rfl, least, most, ns, HLN, hlnj, HMIN, HMAX, HNS, HGR⟩ := hrel
    clear HGR0
    by_cases hjn : j < g.length
    · obtain ⟨gb, go, rfl, _, hgb, hcell⟩ := HGC.out j hjn
      obtain ⟨k, hk⟩ : ∃ k, g[j] = k := ⟨_, rfl⟩
      have hkr : k < rs.length := HG.out k (by rw [← hk]; exact List.getElem_mem _)
      rw [hk] at hcell
      have hB1 := HGR.out.bel
      have hg1 : wr.cell? ⟨gb, go + j, none⟩ = some (.int .i64 k) := by rw [hB1.cell (p := ⟨gb, _, none⟩) hgb]; exact hcell
      have hs1 := hB1.size
      have hLR1 := HLR.out.ext hB1
      obtain ⟨xb, xo, xc, e5, hxb, hcells⟩ := hLR1.rows k hkr
      obtain ⟨v0, hv0⟩ : ∃ v0, (rs.getD k []).getD ci V0 = v0 := ⟨_, rfl⟩
      have HCELL : Hid (wr.rangeAt xb (xo + ci * 4) v0.list) := by rw [← hv0]; exact hcells ci hc
      have HTK : Hid ((g.take (j + 1)).map (cellV rs ci) = (g.take j).map (cellV rs ci) ++ [norm v0]) := by
        have h1 : cellV rs ci k = norm v0 := by rw [← hv0]; rfl
        rw [← h1, ← hk]
        exact (show (g.take (j + 1)).map (cellV rs ci) = (g.take j).map (cellV rs ci) ++ [cellV rs ci g[j]] by rw [List.take_add_one, List.getElem?_eq_getElem hjn, List.map_append]; rfl)
      clear hB1 hLR1 hcells hv0 hcell hk
      have hjg : (j : Int) < g.length := by omega
      have hkm : (k : Int) < rs.length := by omega
      have hk0 : ¬ (k : Int) < 0 := by omega
      have hcin : (ci : Int) < n := by omega
      have hci0 : ¬ (ci : Int) < 0 := by omega
      go_wp2_with (refine wpList_load_mid rfl 100 _ rfl xb (xo + ci * 4) rfl v0.list _ HCELL.out Yaed.underlying100 rfl size100 ?_)
      refine (norm_any v0 wr).mono ?_
      rintro e w3 ⟨rfl, hb3⟩
      obtain ⟨⟨uk, ui, ur, us⟩, hu⟩ : ∃ u, norm v0 = u := ⟨_, rfl⟩
      have HUK : Hid (uk = 0 ∨ uk = 1 ∨ uk = 2 ∨ uk = 3) := by have h1 := norm_kind v0; rw [hu] at h1; exact h1
      rw [hu] at HTK ⊢
      have HGR3 : Hid (GR w GB LB MB B gv least most na nc ns w3) := HGR.out.ext hs1 hb3
      have hs3 : w.heap.size ≤ w3.heap.size ∧ B ≤ w3.heap.size := ⟨by have := hb3.size; omega, HGR3.out.sz⟩
      clear hb3 hu HCELL hg1 e5 HGR hs1
      unfold V.val
      go_upto_region 8 with (refine wpList_put (ty := 100) (g := w3.heap.size) rfl rfl rfl rfl size100 (by kernel_rfl) ⟨_, heap_new rfl, rfl⟩ ?_; intro w4 h4' k4 s4; have HNV : Hid (w4.heap[w3.heap.size]? = some (.cells #[.int .u8 uk, .int .i64 ui, .float .f64 ur, .string us] 100 (0, 0))) := h4'; have HB34 : Hid (Below w3.heap.size w3 w4) := (below_alloc _ _).trans (k4.below (fun k hk => by show k ≠ w3.heap.size; omega)); clear h4' k4 s4)
      obtain ⟨VB, hVB⟩ : ∃ VB, w3.heap.size = VB := ⟨_, rfl⟩
      rw [hVB]
      rw [hVB] at HNV
      have hVB2 : B ≤ VB := by omega
      have HGR4 : Hid (GR w GB LB MB B gv least most na nc ns w4) := HGR3.out.ext hs3.1 HB34.out
      have hs4 : w.heap.size ≤ w4.heap.size := HGR4.out.bel.size
      clear HGR3 HB34 hVB hs3
      rcases HUK.out with rfl | rfl | rfl | rfl
      · have c0 : w4.cell? ⟨VB, 0, none⟩ = some (.int .u8 0) := cell_of_row w4 _ 0 _ _ _ HNV.out
        go_wp2_with fail
        go_roundw
        case rel => exact ⟨j + 1, by omega, by go_num, cnt, na, ln, nc, rfl, by omega, rfl, least, most, ns, HLN, by omega, (show foldA .min ((g.take (j + 1)).map (cellV rs ci)) = _ by rw [HTK.out]; exact min_n HMIN.out rfl), (show foldA .max ((g.take (j + 1)).map (cellV rs ci)) = _ by rw [HTK.out]; exact max_n HMAX.out rfl), (show numsL ((g.take (j + 1)).map (cellV rs ci)) = _ by rw [HTK.out, nums_f rfl, HNS.out]), HGR4⟩
        case measure => simp [intOf]; omega
      · have c0 : w4.cell? ⟨VB, 0, none⟩ = some (.int .u8 1) := cell_of_row w4 _ 0 _ _ _ HNV.out
        have HGRX : Hid (GR w GB LB MB B gv least most na nc ns w4) := HGR4.out
        clear HGR4
        have hwc : IntKind.i64.wrap ((cnt : Int) + 1) = (cnt : Int) + 1 := IntWalk.i64_in _ (by omega)
        by_cases hc0 : cnt = 0
        · subst hc0
          go_upto_region 12 with (first | (refine wpList_get (ty := 100) _ rfl rfl rfl Yaed.underlying100 rfl HNV.out size100 ?_) | (refine wpList_put (ty := 100) (g := LB) rfl rfl rfl rfl size100 (by kernel_rfl) ⟨_, HGRX.out.hl, rfl⟩ ?_; intro w6 h9 k9 s9; replace HNV : Hid (w6.heap[VB]? = some (.cells #[.int .u8 1, .int .i64 ui, .float .f64 ur, .string us] 100 (0, 0))) := (k9.block VB (by show VB ≠ LB; omega)).trans HNV.out; replace HGRX : Hid (GR w GB LB MB B gv (⟨1, ui, ur, us⟩ : V) most na nc ns w6) := HGRX.out.setL (v := (⟨1, ui, ur, us⟩ : V)) (by omega) (by omega) (by omega) (by omega) k9 h9; clear h9 k9 s9))
          clear c0
          go_upto_region 14 with (first | (refine wpList_get (ty := 100) _ rfl rfl rfl Yaed.underlying100 rfl HNV.out size100 ?_) | (refine wpList_put (ty := 100) (g := MB) rfl rfl rfl rfl size100 (by kernel_rfl) ⟨_, HGRX.out.hm, rfl⟩ ?_; intro w7 h9 k9 s9; replace HNV : Hid (w7.heap[VB]? = some (.cells #[.int .u8 1, .int .i64 ui, .float .f64 ur, .string us] 100 (0, 0))) := (k9.block VB (by show VB ≠ MB; omega)).trans HNV.out; replace HGRX : Hid (GR w GB LB MB B gv (⟨1, ui, ur, us⟩ : V) (⟨1, ui, ur, us⟩ : V) na nc ns w7) := HGRX.out.setM (v := (⟨1, ui, ur, us⟩ : V)) (by omega) (by omega) (by omega) (by omega) k9 h9; clear h9 k9 s9))
          have c0 : w7.cell? ⟨VB, 0, none⟩ = some (.int .u8 1) := cell_of_row w7 _ 0 _ _ _ HNV.out
          have HOWN : Hid (w7.ownsRow B 100 4 (.slice na ln nc) ln (flatL ns)) := by have h9 := HGRX.out.own; rw [← HLN.out] at h9; exact h9
          have hsX : B ≤ w7.heap.size := HGRX.out.sz
          go_wp2_with (first | (refine wpList_get (ty := 100) _ rfl rfl rfl Yaed.underlying100 rfl HNV.out size100 ?_) | (at_builtin; go_must (refine wpList_app1 B rfl rfl Yaed.underlying94 info100 rfl rfl (HOWN.out.alloc _) (by exact heap_new rfl) (by rfl) (by intro u hu; simp at hu; rcases hu with rfl | rfl | rfl | rfl <;> rfl) (by omega) (by omega) (by omega) (by simp; omega) ?_)))
          intro g9 cap9 w8 hown9 hgrow9 hat9 hlt9
          have HGR9 : Hid (GR w GB LB MB B gv (⟨1, ui, ur, us⟩ : V) (⟨1, ui, ur, us⟩ : V) (some ⟨g9, 0, none⟩) cap9 (ns ++ [(⟨1, ui, ur, us⟩ : V)]) w8) := by
            have h1 := HGRX.out.ext HGRX.out.bel.size (below_alloc w7 (Obj.cells #[.int .u8 1, .int .i64 ui, .float .f64 ur, .string us] 100))
            exact h1.app (v := (⟨1, ui, ur, us⟩ : V)) (by omega) (by omega) (by omega) (by omega) (by rw [← HLN.out]; exact hown9) (by rw [← HLN.out]; exact hgrow9)
          clear hown9 hgrow9 hat9 hlt9 c0 HOWN hsX
          go_wp2_with fail
          go_roundw
          case rel => exact ⟨j + 1, by omega, by go_num, 0 + 1, some ⟨g9, 0, none⟩, ln + 1, cap9, by go_num, by omega, rfl, (⟨1, ui, ur, us⟩ : V), (⟨1, ui, ur, us⟩ : V), ns ++ [(⟨1, ui, ur, us⟩ : V)], (show ln + 1 = (ns ++ [(⟨1, ui, ur, us⟩ : V)]).length by rw [List.length_append, ← HLN.out]; rfl), by omega, (show foldA .min ((g.take (j + 1)).map (cellV rs ci)) = _ by rw [HTK.out]; exact min_t HMIN.out rfl rfl), (show foldA .max ((g.take (j + 1)).map (cellV rs ci)) = _ by rw [HTK.out]; exact max_t HMAX.out rfl rfl), (show numsL ((g.take (j + 1)).map (cellV rs ci)) = _ by rw [HTK.out, nums_t rfl, HNS.out]), HGR9⟩
          case measure => simp [intOf]; omega
        · have hc1 : ((cnt : Int) + 1 == 1) = false := by first | (simp; omega) | simpa using hc0
          have hc2 : ¬ (cnt : Int) + 1 = 1 := by omega
          have hc3 : ¬ (cnt : Int) = 0 := by omega
          have HC0 : Hid ((cnt == 0) = false) := (show (cnt == 0) = false by simpa using hc0)
          have v0 : w4.cell? ⟨VB, 0, none⟩ = some (.int .u8 1) := cell_of_row w4 _ 0 _ _ _ HNV.out
          have v1 : w4.cell? ⟨VB, 1, none⟩ = some (.int .i64 ui) := cell_of_row w4 _ 1 _ _ _ HNV.out
          have v2 : w4.cell? ⟨VB, 2, none⟩ = some (.float .f64 ur) := cell_of_row w4 _ 2 _ _ _ HNV.out
          have v3 : w4.cell? ⟨VB, 3, none⟩ = some (.string us) := cell_of_row w4 _ 3 _ _ _ HNV.out
          have l0 : w4.cell? ⟨LB, 0, none⟩ = some (.int .u8 least.k) := cell_of_row w4 _ 0 _ _ _ HGRX.out.hl
          have l1 : w4.cell? ⟨LB, 1, none⟩ = some (.int .i64 least.i) := cell_of_row w4 _ 1 _ _ _ HGRX.out.hl
          have l2 : w4.cell? ⟨LB, 2, none⟩ = some (.float .f64 least.r) := cell_of_row w4 _ 2 _ _ _ HGRX.out.hl
          have l3 : w4.cell? ⟨LB, 3, none⟩ = some (.string least.s) := cell_of_row w4 _ 3 _ _ _ HGRX.out.hl
          clear c0
          go_wp2_with fail
          clear v0 v1 v2 v3 l0 l1 l2 l3
          refine (compare_any (⟨1, ui, ur, us⟩ : V) least w4).mono ?_
          rintro e wa ⟨rfl, hba⟩
          replace HNV : Hid (wa.heap[VB]? = some (.cells #[.int .u8 1, .int .i64 ui, .float .f64 ur, .string us] 100 (0, 0))) := (hba.block _ (block_lt HNV.out)).trans HNV.out
          replace HGRX : Hid (GR w GB LB MB B gv least most na nc ns wa) := HGRX.out.ext HGRX.out.bel.size hba
          clear hba
          obtain ⟨cm, hcm⟩ : ∃ cm, cmpV (⟨1, ui, ur, us⟩ : V) least = cm := ⟨_, rfl⟩
          have HCM : Hid (cmpV (⟨1, ui, ur, us⟩ : V) least = cm) := hcm
          rw [hcm]
          clear hcm
          by_cases hlt : cm < 0
          · skip
            go_upto_region 12 with (first | (refine wpList_get (ty := 100) _ rfl rfl rfl Yaed.underlying100 rfl HNV.out size100 ?_) | (refine wpList_put (ty := 100) (g := LB) rfl rfl rfl rfl size100 (by kernel_rfl) ⟨_, HGRX.out.hl, rfl⟩ ?_; intro w9 h9 k9 s9; replace HNV : Hid (w9.heap[VB]? = some (.cells #[.int .u8 1, .int .i64 ui, .float .f64 ur, .string us] 100 (0, 0))) := (k9.block VB (by show VB ≠ LB; omega)).trans HNV.out; replace HGRX : Hid (GR w GB LB MB B gv (⟨1, ui, ur, us⟩ : V) most na nc ns w9) := HGRX.out.setL (v := (⟨1, ui, ur, us⟩ : V)) (by omega) (by omega) (by omega) (by omega) k9 h9; clear h9 k9 s9))
            have v0 : w9.cell? ⟨VB, 0, none⟩ = some (.int .u8 1) := cell_of_row w9 _ 0 _ _ _ HNV.out
            have v1 : w9.cell? ⟨VB, 1, none⟩ = some (.int .i64 ui) := cell_of_row w9 _ 1 _ _ _ HNV.out
            have v2 : w9.cell? ⟨VB, 2, none⟩ = some (.float .f64 ur) := cell_of_row w9 _ 2 _ _ _ HNV.out
            have v3 : w9.cell? ⟨VB, 3, none⟩ = some (.string us) := cell_of_row w9 _ 3 _ _ _ HNV.out
            have l0 : w9.cell? ⟨MB, 0, none⟩ = some (.int .u8 most.k) := cell_of_row w9 _ 0 _ _ _ HGRX.out.hm
            have l1 : w9.cell? ⟨MB, 1, none⟩ = some (.int .i64 most.i) := cell_of_row w9 _ 1 _ _ _ HGRX.out.hm
            have l2 : w9.cell? ⟨MB, 2, none⟩ = some (.float .f64 most.r) := cell_of_row w9 _ 2 _ _ _ HGRX.out.hm
            have l3 : w9.cell? ⟨MB, 3, none⟩ = some (.string most.s) := cell_of_row w9 _ 3 _ _ _ HGRX.out.hm
            go_wp2_with fail
            clear v0 v1 v2 v3 l0 l1 l2 l3
            refine (compare_any (⟨1, ui, ur, us⟩ : V) most w9).mono ?_
            rintro e wb ⟨rfl, hbb⟩
            replace HNV : Hid (wb.heap[VB]? = some (.cells #[.int .u8 1, .int .i64 ui, .float .f64 ur, .string us] 100 (0, 0))) := (hbb.block _ (block_lt HNV.out)).trans HNV.out
            replace HGRX : Hid (GR w GB LB MB B gv (⟨1, ui, ur, us⟩ : V) most na nc ns wb) := HGRX.out.ext HGRX.out.bel.size hbb
            clear hbb
            obtain ⟨cn, hcn⟩ : ∃ cn, cmpV (⟨1, ui, ur, us⟩ : V) most = cn := ⟨_, rfl⟩
            have HCN : Hid (cmpV (⟨1, ui, ur, us⟩ : V) most = cn) := hcn
            rw [hcn]
            clear hcn
            by_cases hgt : 0 < cn
            · skip
              go_upto_region 14 with (first | (refine wpList_get (ty := 100) _ rfl rfl rfl Yaed.underlying100 rfl HNV.out size100 ?_) | (refine wpList_put (ty := 100) (g := MB) rfl rfl rfl rfl size100 (by kernel_rfl) ⟨_, HGRX.out.hm, rfl⟩ ?_; intro w10 h9 k9 s9; replace HNV : Hid (w10.heap[VB]? = some (.cells #[.int .u8 1, .int .i64 ui, .float .f64 ur, .string us] 100 (0, 0))) := (k9.block VB (by show VB ≠ MB; omega)).trans HNV.out; replace HGRX : Hid (GR w GB LB MB B gv (⟨1, ui, ur, us⟩ : V) (⟨1, ui, ur, us⟩ : V) na nc ns w10) := HGRX.out.setM (v := (⟨1, ui, ur, us⟩ : V)) (by omega) (by omega) (by omega) (by omega) k9 h9; clear h9 k9 s9))
              have c0 : w10.cell? ⟨VB, 0, none⟩ = some (.int .u8 1) := cell_of_row w10 _ 0 _ _ _ HNV.out
              have HOWN : Hid (w10.ownsRow B 100 4 (.slice na ln nc) ln (flatL ns)) := by have h9 := HGRX.out.own; rw [← HLN.out] at h9; exact h9
              have hsX : B ≤ w10.heap.size := HGRX.out.sz
              go_wp2_with (first | (refine wpList_get (ty := 100) _ rfl rfl rfl Yaed.underlying100 rfl HNV.out size100 ?_) | (at_builtin; go_must (refine wpList_app1 B rfl rfl Yaed.underlying94 info100 rfl rfl (HOWN.out.alloc _) (by exact heap_new rfl) (by rfl) (by intro u hu; simp at hu; rcases hu with rfl | rfl | rfl | rfl <;> rfl) (by omega) (by omega) (by omega) (by simp; omega) ?_)))
              intro g9 cap9 w11 hown9 hgrow9 hat9 hlt9
              have HGR9 : Hid (GR w GB LB MB B gv (⟨1, ui, ur, us⟩ : V) (⟨1, ui, ur, us⟩ : V) (some ⟨g9, 0, none⟩) cap9 (ns ++ [(⟨1, ui, ur, us⟩ : V)]) w11) := by
                have h1 := HGRX.out.ext HGRX.out.bel.size (below_alloc w10 (Obj.cells #[.int .u8 1, .int .i64 ui, .float .f64 ur, .string us] 100))
                exact h1.app (v := (⟨1, ui, ur, us⟩ : V)) (by omega) (by omega) (by omega) (by omega) (by rw [← HLN.out]; exact hown9) (by rw [← HLN.out]; exact hgrow9)
              clear hown9 hgrow9 hat9 hlt9 c0 HOWN hsX
              go_wp2_with fail
              go_roundw
              case rel => exact ⟨j + 1, by omega, by go_num, cnt + 1, some ⟨g9, 0, none⟩, ln + 1, cap9, by go_num, by omega, rfl, (⟨1, ui, ur, us⟩ : V), (⟨1, ui, ur, us⟩ : V), ns ++ [(⟨1, ui, ur, us⟩ : V)], (show ln + 1 = (ns ++ [(⟨1, ui, ur, us⟩ : V)]).length by rw [List.length_append, ← HLN.out]; rfl), by omega, (show foldA .min ((g.take (j + 1)).map (cellV rs ci)) = _ by rw [HTK.out]; exact min_t HMIN.out rfl (by rw [HC0.out, HCM.out]; simpa using hlt)), (show foldA .max ((g.take (j + 1)).map (cellV rs ci)) = _ by rw [HTK.out]; exact max_t HMAX.out rfl (by rw [HC0.out, HCN.out]; simpa using hgt)), (show numsL ((g.take (j + 1)).map (cellV rs ci)) = _ by rw [HTK.out, nums_t rfl, HNS.out]), HGR9⟩
              case measure => simp [intOf]; omega
            · skip
              go_upto_region 14 with fail
              have c0 : wb.cell? ⟨VB, 0, none⟩ = some (.int .u8 1) := cell_of_row wb _ 0 _ _ _ HNV.out
              have HOWN : Hid (wb.ownsRow B 100 4 (.slice na ln nc) ln (flatL ns)) := by have h9 := HGRX.out.own; rw [← HLN.out] at h9; exact h9
              have hsX : B ≤ wb.heap.size := HGRX.out.sz
              go_wp2_with (first | (refine wpList_get (ty := 100) _ rfl rfl rfl Yaed.underlying100 rfl HNV.out size100 ?_) | (at_builtin; go_must (refine wpList_app1 B rfl rfl Yaed.underlying94 info100 rfl rfl (HOWN.out.alloc _) (by exact heap_new rfl) (by rfl) (by intro u hu; simp at hu; rcases hu with rfl | rfl | rfl | rfl <;> rfl) (by omega) (by omega) (by omega) (by simp; omega) ?_)))
              intro g9 cap9 w12 hown9 hgrow9 hat9 hlt9
              have HGR9 : Hid (GR w GB LB MB B gv (⟨1, ui, ur, us⟩ : V) most (some ⟨g9, 0, none⟩) cap9 (ns ++ [(⟨1, ui, ur, us⟩ : V)]) w12) := by
                have h1 := HGRX.out.ext HGRX.out.bel.size (below_alloc wb (Obj.cells #[.int .u8 1, .int .i64 ui, .float .f64 ur, .string us] 100))
                exact h1.app (v := (⟨1, ui, ur, us⟩ : V)) (by omega) (by omega) (by omega) (by omega) (by rw [← HLN.out]; exact hown9) (by rw [← HLN.out]; exact hgrow9)
              clear hown9 hgrow9 hat9 hlt9 c0 HOWN hsX
              go_wp2_with fail
              go_roundw
              case rel => exact ⟨j + 1, by omega, by go_num, cnt + 1, some ⟨g9, 0, none⟩, ln + 1, cap9, by go_num, by omega, rfl, (⟨1, ui, ur, us⟩ : V), most, ns ++ [(⟨1, ui, ur, us⟩ : V)], (show ln + 1 = (ns ++ [(⟨1, ui, ur, us⟩ : V)]).length by rw [List.length_append, ← HLN.out]; rfl), by omega, (show foldA .min ((g.take (j + 1)).map (cellV rs ci)) = _ by rw [HTK.out]; exact min_t HMIN.out rfl (by rw [HC0.out, HCM.out]; simpa using hlt)), (show foldA .max ((g.take (j + 1)).map (cellV rs ci)) = _ by rw [HTK.out]; exact max_f HMAX.out rfl (by rw [HC0.out, HCN.out]; simpa using hgt)), (show numsL ((g.take (j + 1)).map (cellV rs ci)) = _ by rw [HTK.out, nums_t rfl, HNS.out]), HGR9⟩
              case measure => simp [intOf]; omega
          · skip
            go_upto_region 12 with fail
            have v0 : wa.cell? ⟨VB, 0, none⟩ = some (.int .u8 1) := cell_of_row wa _ 0 _ _ _ HNV.out
            have v1 : wa.cell? ⟨VB, 1, none⟩ = some (.int .i64 ui) := cell_of_row wa _ 1 _ _ _ HNV.out
            have v2 : wa.cell? ⟨VB, 2, none⟩ = some (.float .f64 ur) := cell_of_row wa _ 2 _ _ _ HNV.out
            have v3 : wa.cell? ⟨VB, 3, none⟩ = some (.string us) := cell_of_row wa _ 3 _ _ _ HNV.out
            have l0 : wa.cell? ⟨MB, 0, none⟩ = some (.int .u8 most.k) := cell_of_row wa _ 0 _ _ _ HGRX.out.hm
            have l1 : wa.cell? ⟨MB, 1, none⟩ = some (.int .i64 most.i) := cell_of_row wa _ 1 _ _ _ HGRX.out.hm
            have l2 : wa.cell? ⟨MB, 2, none⟩ = some (.float .f64 most.r) := cell_of_row wa _ 2 _ _ _ HGRX.out.hm
            have l3 : wa.cell? ⟨MB, 3, none⟩ = some (.string most.s) := cell_of_row wa _ 3 _ _ _ HGRX.out.hm
            go_wp2_with fail
            clear v0 v1 v2 v3 l0 l1 l2 l3
            refine (compare_any (⟨1, ui, ur, us⟩ : V) most wa).mono ?_
            rintro e wb ⟨rfl, hbb⟩
            replace HNV : Hid (wb.heap[VB]? = some (.cells #[.int .u8 1, .int .i64 ui, .float .f64 ur, .string us] 100 (0, 0))) := (hbb.block _ (block_lt HNV.out)).trans HNV.out
            replace HGRX : Hid (GR w GB LB MB B gv least most na nc ns wb) := HGRX.out.ext HGRX.out.bel.size hbb
            clear hbb
            obtain ⟨cn, hcn⟩ : ∃ cn, cmpV (⟨1, ui, ur, us⟩ : V) most = cn := ⟨_, rfl⟩
            have HCN : Hid (cmpV (⟨1, ui, ur, us⟩ : V) most = cn) := hcn
            rw [hcn]
            clear hcn
            by_cases hgt : 0 < cn
            · skip
              go_upto_region 14 with (first | (refine wpList_get (ty := 100) _ rfl rfl rfl Yaed.underlying100 rfl HNV.out size100 ?_) | (refine wpList_put (ty := 100) (g := MB) rfl rfl rfl rfl size100 (by kernel_rfl) ⟨_, HGRX.out.hm, rfl⟩ ?_; intro w13 h9 k9 s9; replace HNV : Hid (w13.heap[VB]? = some (.cells #[.int .u8 1, .int .i64 ui, .float .f64 ur, .string us] 100 (0, 0))) := (k9.block VB (by show VB ≠ MB; omega)).trans HNV.out; replace HGRX : Hid (GR w GB LB MB B gv least (⟨1, ui, ur, us⟩ : V) na nc ns w13) := HGRX.out.setM (v := (⟨1, ui, ur, us⟩ : V)) (by omega) (by omega) (by omega) (by omega) k9 h9; clear h9 k9 s9))
              have c0 : w13.cell? ⟨VB, 0, none⟩ = some (.int .u8 1) := cell_of_row w13 _ 0 _ _ _ HNV.out
              have HOWN : Hid (w13.ownsRow B 100 4 (.slice na ln nc) ln (flatL ns)) := by have h9 := HGRX.out.own; rw [← HLN.out] at h9; exact h9
              have hsX : B ≤ w13.heap.size := HGRX.out.sz
              go_wp2_with (first | (refine wpList_get (ty := 100) _ rfl rfl rfl Yaed.underlying100 rfl HNV.out size100 ?_) | (at_builtin; go_must (refine wpList_app1 B rfl rfl Yaed.underlying94 info100 rfl rfl (HOWN.out.alloc _) (by exact heap_new rfl) (by rfl) (by intro u hu; simp at hu; rcases hu with rfl | rfl | rfl | rfl <;> rfl) (by omega) (by omega) (by omega) (by simp; omega) ?_)))
              intro g9 cap9 w14 hown9 hgrow9 hat9 hlt9
              have HGR9 : Hid (GR w GB LB MB B gv least (⟨1, ui, ur, us⟩ : V) (some ⟨g9, 0, none⟩) cap9 (ns ++ [(⟨1, ui, ur, us⟩ : V)]) w14) := by
                have h1 := HGRX.out.ext HGRX.out.bel.size (below_alloc w13 (Obj.cells #[.int .u8 1, .int .i64 ui, .float .f64 ur, .string us] 100))
                exact h1.app (v := (⟨1, ui, ur, us⟩ : V)) (by omega) (by omega) (by omega) (by omega) (by rw [← HLN.out]; exact hown9) (by rw [← HLN.out]; exact hgrow9)
              clear hown9 hgrow9 hat9 hlt9 c0 HOWN hsX
              go_wp2_with fail
              go_roundw
              case rel => exact ⟨j + 1, by omega, by go_num, cnt + 1, some ⟨g9, 0, none⟩, ln + 1, cap9, by go_num, by omega, rfl, least, (⟨1, ui, ur, us⟩ : V), ns ++ [(⟨1, ui, ur, us⟩ : V)], (show ln + 1 = (ns ++ [(⟨1, ui, ur, us⟩ : V)]).length by rw [List.length_append, ← HLN.out]; rfl), by omega, (show foldA .min ((g.take (j + 1)).map (cellV rs ci)) = _ by rw [HTK.out]; exact min_f HMIN.out rfl (by rw [HC0.out, HCM.out]; simpa using hlt)), (show foldA .max ((g.take (j + 1)).map (cellV rs ci)) = _ by rw [HTK.out]; exact max_t HMAX.out rfl (by rw [HC0.out, HCN.out]; simpa using hgt)), (show numsL ((g.take (j + 1)).map (cellV rs ci)) = _ by rw [HTK.out, nums_t rfl, HNS.out]), HGR9⟩
              case measure => simp [intOf]; omega
            · skip
              go_upto_region 14 with fail
              have c0 : wb.cell? ⟨VB, 0, none⟩ = some (.int .u8 1) := cell_of_row wb _ 0 _ _ _ HNV.out
              have HOWN : Hid (wb.ownsRow B 100 4 (.slice na ln nc) ln (flatL ns)) := by have h9 := HGRX.out.own; rw [← HLN.out] at h9; exact h9
              have hsX : B ≤ wb.heap.size := HGRX.out.sz
              go_wp2_with (first | (refine wpList_get (ty := 100) _ rfl rfl rfl Yaed.underlying100 rfl HNV.out size100 ?_) | (at_builtin; go_must (refine wpList_app1 B rfl rfl Yaed.underlying94 info100 rfl rfl (HOWN.out.alloc _) (by exact heap_new rfl) (by rfl) (by intro u hu; simp at hu; rcases hu with rfl | rfl | rfl | rfl <;> rfl) (by omega) (by omega) (by omega) (by simp; omega) ?_)))
              intro g9 cap9 w15 hown9 hgrow9 hat9 hlt9
              have HGR9 : Hid (GR w GB LB MB B gv least most (some ⟨g9, 0, none⟩) cap9 (ns ++ [(⟨1, ui, ur, us⟩ : V)]) w15) := by
                have h1 := HGRX.out.ext HGRX.out.bel.size (below_alloc wb (Obj.cells #[.int .u8 1, .int .i64 ui, .float .f64 ur, .string us] 100))
                exact h1.app (v := (⟨1, ui, ur, us⟩ : V)) (by omega) (by omega) (by omega) (by omega) (by rw [← HLN.out]; exact hown9) (by rw [← HLN.out]; exact hgrow9)
              clear hown9 hgrow9 hat9 hlt9 c0 HOWN hsX
              go_wp2_with fail
              go_roundw
              case rel => exact ⟨j + 1, by omega, by go_num, cnt + 1, some ⟨g9, 0, none⟩, ln + 1, cap9, by go_num, by omega, rfl, least, most, ns ++ [(⟨1, ui, ur, us⟩ : V)], (show ln + 1 = (ns ++ [(⟨1, ui, ur, us⟩ : V)]).length by rw [List.length_append, ← HLN.out]; rfl), by omega, (show foldA .min ((g.take (j + 1)).map (cellV rs ci)) = _ by rw [HTK.out]; exact min_f HMIN.out rfl (by rw [HC0.out, HCM.out]; simpa using hlt)), (show foldA .max ((g.take (j + 1)).map (cellV rs ci)) = _ by rw [HTK.out]; exact max_f HMAX.out rfl (by rw [HC0.out, HCN.out]; simpa using hgt)), (show numsL ((g.take (j + 1)).map (cellV rs ci)) = _ by rw [HTK.out, nums_t rfl, HNS.out]), HGR9⟩
              case measure => simp [intOf]; omega
      · have c0 : w4.cell? ⟨VB, 0, none⟩ = some (.int .u8 2) := cell_of_row w4 _ 0 _ _ _ HNV.out
        have HGRX : Hid (GR w GB LB MB B gv least most na nc ns w4) := HGR4.out
        clear HGR4
        have hwc : IntKind.i64.wrap ((cnt : Int) + 1) = (cnt : Int) + 1 := IntWalk.i64_in _ (by omega)
        by_cases hc0 : cnt = 0
        · subst hc0
          go_upto_region 12 with (first | (refine wpList_get (ty := 100) _ rfl rfl rfl Yaed.underlying100 rfl HNV.out size100 ?_) | (refine wpList_put (ty := 100) (g := LB) rfl rfl rfl rfl size100 (by kernel_rfl) ⟨_, HGRX.out.hl, rfl⟩ ?_; intro w16 h9 k9 s9; replace HNV : Hid (w16.heap[VB]? = some (.cells #[.int .u8 2, .int .i64 ui, .float .f64 ur, .string us] 100 (0, 0))) := (k9.block VB (by show VB ≠ LB; omega)).trans HNV.out; replace HGRX : Hid (GR w GB LB MB B gv (⟨2, ui, ur, us⟩ : V) most na nc ns w16) := HGRX.out.setL (v := (⟨2, ui, ur, us⟩ : V)) (by omega) (by omega) (by omega) (by omega) k9 h9; clear h9 k9 s9))
          clear c0
          go_upto_region 14 with (first | (refine wpList_get (ty := 100) _ rfl rfl rfl Yaed.underlying100 rfl HNV.out size100 ?_) | (refine wpList_put (ty := 100) (g := MB) rfl rfl rfl rfl size100 (by kernel_rfl) ⟨_, HGRX.out.hm, rfl⟩ ?_; intro w17 h9 k9 s9; replace HNV : Hid (w17.heap[VB]? = some (.cells #[.int .u8 2, .int .i64 ui, .float .f64 ur, .string us] 100 (0, 0))) := (k9.block VB (by show VB ≠ MB; omega)).trans HNV.out; replace HGRX : Hid (GR w GB LB MB B gv (⟨2, ui, ur, us⟩ : V) (⟨2, ui, ur, us⟩ : V) na nc ns w17) := HGRX.out.setM (v := (⟨2, ui, ur, us⟩ : V)) (by omega) (by omega) (by omega) (by omega) k9 h9; clear h9 k9 s9))
          have c0 : w17.cell? ⟨VB, 0, none⟩ = some (.int .u8 2) := cell_of_row w17 _ 0 _ _ _ HNV.out
          have HOWN : Hid (w17.ownsRow B 100 4 (.slice na ln nc) ln (flatL ns)) := by have h9 := HGRX.out.own; rw [← HLN.out] at h9; exact h9
          have hsX : B ≤ w17.heap.size := HGRX.out.sz
          go_wp2_with (first | (refine wpList_get (ty := 100) _ rfl rfl rfl Yaed.underlying100 rfl HNV.out size100 ?_) | (at_builtin; go_must (refine wpList_app1 B rfl rfl Yaed.underlying94 info100 rfl rfl (HOWN.out.alloc _) (by exact heap_new rfl) (by rfl) (by intro u hu; simp at hu; rcases hu with rfl | rfl | rfl | rfl <;> rfl) (by omega) (by omega) (by omega) (by simp; omega) ?_)))
          intro g9 cap9 w18 hown9 hgrow9 hat9 hlt9
          have HGR9 : Hid (GR w GB LB MB B gv (⟨2, ui, ur, us⟩ : V) (⟨2, ui, ur, us⟩ : V) (some ⟨g9, 0, none⟩) cap9 (ns ++ [(⟨2, ui, ur, us⟩ : V)]) w18) := by
            have h1 := HGRX.out.ext HGRX.out.bel.size (below_alloc w17 (Obj.cells #[.int .u8 2, .int .i64 ui, .float .f64 ur, .string us] 100))
            exact h1.app (v := (⟨2, ui, ur, us⟩ : V)) (by omega) (by omega) (by omega) (by omega) (by rw [← HLN.out]; exact hown9) (by rw [← HLN.out]; exact hgrow9)
          clear hown9 hgrow9 hat9 hlt9 c0 HOWN hsX
          go_wp2_with fail
          go_roundw
          case rel => exact ⟨j + 1, by omega, by go_num, 0 + 1, some ⟨g9, 0, none⟩, ln + 1, cap9, by go_num, by omega, rfl, (⟨2, ui, ur, us⟩ : V), (⟨2, ui, ur, us⟩ : V), ns ++ [(⟨2, ui, ur, us⟩ : V)], (show ln + 1 = (ns ++ [(⟨2, ui, ur, us⟩ : V)]).length by rw [List.length_append, ← HLN.out]; rfl), by omega, (show foldA .min ((g.take (j + 1)).map (cellV rs ci)) = _ by rw [HTK.out]; exact min_t HMIN.out rfl rfl), (show foldA .max ((g.take (j + 1)).map (cellV rs ci)) = _ by rw [HTK.out]; exact max_t HMAX.out rfl rfl), (show numsL ((g.take (j + 1)).map (cellV rs ci)) = _ by rw [HTK.out, nums_t rfl, HNS.out]), HGR9⟩
          case measure => simp [intOf]; omega
        · have hc1 : ((cnt : Int) + 1 == 1) = false := by first | (simp; omega) | simpa using hc0
          have hc2 : ¬ (cnt : Int) + 1 = 1 := by omega
          have hc3 : ¬ (cnt : Int) = 0 := by omega
          have HC0 : Hid ((cnt == 0) = false) := (show (cnt == 0) = false by simpa using hc0)
          have v0 : w4.cell? ⟨VB, 0, none⟩ = some (.int .u8 2) := cell_of_row w4 _ 0 _ _ _ HNV.out
          have v1 : w4.cell? ⟨VB, 1, none⟩ = some (.int .i64 ui) := cell_of_row w4 _ 1 _ _ _ HNV.out
          have v2 : w4.cell? ⟨VB, 2, none⟩ = some (.float .f64 ur) := cell_of_row w4 _ 2 _ _ _ HNV.out
          have v3 : w4.cell? ⟨VB, 3, none⟩ = some (.string us) := cell_of_row w4 _ 3 _ _ _ HNV.out
          have l0 : w4.cell? ⟨LB, 0, none⟩ = some (.int .u8 least.k) := cell_of_row w4 _ 0 _ _ _ HGRX.out.hl
          have l1 : w4.cell? ⟨LB, 1, none⟩ = some (.int .i64 least.i) := cell_of_row w4 _ 1 _ _ _ HGRX.out.hl
          have l2 : w4.cell? ⟨LB, 2, none⟩ = some (.float .f64 least.r) := cell_of_row w4 _ 2 _ _ _ HGRX.out.hl
          have l3 : w4.cell? ⟨LB, 3, none⟩ = some (.string least.s) := cell_of_row w4 _ 3 _ _ _ HGRX.out.hl
          clear c0
          go_wp2_with fail
          clear v0 v1 v2 v3 l0 l1 l2 l3
          refine (compare_any (⟨2, ui, ur, us⟩ : V) least w4).mono ?_
          rintro e wa ⟨rfl, hba⟩
          replace HNV : Hid (wa.heap[VB]? = some (.cells #[.int .u8 2, .int .i64 ui, .float .f64 ur, .string us] 100 (0, 0))) := (hba.block _ (block_lt HNV.out)).trans HNV.out
          replace HGRX : Hid (GR w GB LB MB B gv least most na nc ns wa) := HGRX.out.ext HGRX.out.bel.size hba
          clear hba
          obtain ⟨cm, hcm⟩ : ∃ cm, cmpV (⟨2, ui, ur, us⟩ : V) least = cm := ⟨_, rfl⟩
          have HCM : Hid (cmpV (⟨2, ui, ur, us⟩ : V) least = cm) := hcm
          rw [hcm]
          clear hcm
          by_cases hlt : cm < 0
          · skip
            go_upto_region 12 with (first | (refine wpList_get (ty := 100) _ rfl rfl rfl Yaed.underlying100 rfl HNV.out size100 ?_) | (refine wpList_put (ty := 100) (g := LB) rfl rfl rfl rfl size100 (by kernel_rfl) ⟨_, HGRX.out.hl, rfl⟩ ?_; intro w19 h9 k9 s9; replace HNV : Hid (w19.heap[VB]? = some (.cells #[.int .u8 2, .int .i64 ui, .float .f64 ur, .string us] 100 (0, 0))) := (k9.block VB (by show VB ≠ LB; omega)).trans HNV.out; replace HGRX : Hid (GR w GB LB MB B gv (⟨2, ui, ur, us⟩ : V) most na nc ns w19) := HGRX.out.setL (v := (⟨2, ui, ur, us⟩ : V)) (by omega) (by omega) (by omega) (by omega) k9 h9; clear h9 k9 s9))
            have v0 : w19.cell? ⟨VB, 0, none⟩ = some (.int .u8 2) := cell_of_row w19 _ 0 _ _ _ HNV.out
            have v1 : w19.cell? ⟨VB, 1, none⟩ = some (.int .i64 ui) := cell_of_row w19 _ 1 _ _ _ HNV.out
            have v2 : w19.cell? ⟨VB, 2, none⟩ = some (.float .f64 ur) := cell_of_row w19 _ 2 _ _ _ HNV.out
            have v3 : w19.cell? ⟨VB, 3, none⟩ = some (.string us) := cell_of_row w19 _ 3 _ _ _ HNV.out
            have l0 : w19.cell? ⟨MB, 0, none⟩ = some (.int .u8 most.k) := cell_of_row w19 _ 0 _ _ _ HGRX.out.hm
            have l1 : w19.cell? ⟨MB, 1, none⟩ = some (.int .i64 most.i) := cell_of_row w19 _ 1 _ _ _ HGRX.out.hm
            have l2 : w19.cell? ⟨MB, 2, none⟩ = some (.float .f64 most.r) := cell_of_row w19 _ 2 _ _ _ HGRX.out.hm
            have l3 : w19.cell? ⟨MB, 3, none⟩ = some (.string most.s) := cell_of_row w19 _ 3 _ _ _ HGRX.out.hm
            go_wp2_with fail
            clear v0 v1 v2 v3 l0 l1 l2 l3
            refine (compare_any (⟨2, ui, ur, us⟩ : V) most w19).mono ?_
            rintro e wb ⟨rfl, hbb⟩
            replace HNV : Hid (wb.heap[VB]? = some (.cells #[.int .u8 2, .int .i64 ui, .float .f64 ur, .string us] 100 (0, 0))) := (hbb.block _ (block_lt HNV.out)).trans HNV.out
            replace HGRX : Hid (GR w GB LB MB B gv (⟨2, ui, ur, us⟩ : V) most na nc ns wb) := HGRX.out.ext HGRX.out.bel.size hbb
            clear hbb
            obtain ⟨cn, hcn⟩ : ∃ cn, cmpV (⟨2, ui, ur, us⟩ : V) most = cn := ⟨_, rfl⟩
            have HCN : Hid (cmpV (⟨2, ui, ur, us⟩ : V) most = cn) := hcn
            rw [hcn]
            clear hcn
            by_cases hgt : 0 < cn
            · skip
              go_upto_region 14 with (first | (refine wpList_get (ty := 100) _ rfl rfl rfl Yaed.underlying100 rfl HNV.out size100 ?_) | (refine wpList_put (ty := 100) (g := MB) rfl rfl rfl rfl size100 (by kernel_rfl) ⟨_, HGRX.out.hm, rfl⟩ ?_; intro w20 h9 k9 s9; replace HNV : Hid (w20.heap[VB]? = some (.cells #[.int .u8 2, .int .i64 ui, .float .f64 ur, .string us] 100 (0, 0))) := (k9.block VB (by show VB ≠ MB; omega)).trans HNV.out; replace HGRX : Hid (GR w GB LB MB B gv (⟨2, ui, ur, us⟩ : V) (⟨2, ui, ur, us⟩ : V) na nc ns w20) := HGRX.out.setM (v := (⟨2, ui, ur, us⟩ : V)) (by omega) (by omega) (by omega) (by omega) k9 h9; clear h9 k9 s9))
              have c0 : w20.cell? ⟨VB, 0, none⟩ = some (.int .u8 2) := cell_of_row w20 _ 0 _ _ _ HNV.out
              have HOWN : Hid (w20.ownsRow B 100 4 (.slice na ln nc) ln (flatL ns)) := by have h9 := HGRX.out.own; rw [← HLN.out] at h9; exact h9
              have hsX : B ≤ w20.heap.size := HGRX.out.sz
              go_wp2_with (first | (refine wpList_get (ty := 100) _ rfl rfl rfl Yaed.underlying100 rfl HNV.out size100 ?_) | (at_builtin; go_must (refine wpList_app1 B rfl rfl Yaed.underlying94 info100 rfl rfl (HOWN.out.alloc _) (by exact heap_new rfl) (by rfl) (by intro u hu; simp at hu; rcases hu with rfl | rfl | rfl | rfl <;> rfl) (by omega) (by omega) (by omega) (by simp; omega) ?_)))
              intro g9 cap9 w21 hown9 hgrow9 hat9 hlt9
              have HGR9 : Hid (GR w GB LB MB B gv (⟨2, ui, ur, us⟩ : V) (⟨2, ui, ur, us⟩ : V) (some ⟨g9, 0, none⟩) cap9 (ns ++ [(⟨2, ui, ur, us⟩ : V)]) w21) := by
                have h1 := HGRX.out.ext HGRX.out.bel.size (below_alloc w20 (Obj.cells #[.int .u8 2, .int .i64 ui, .float .f64 ur, .string us] 100))
                exact h1.app (v := (⟨2, ui, ur, us⟩ : V)) (by omega) (by omega) (by omega) (by omega) (by rw [← HLN.out]; exact hown9) (by rw [← HLN.out]; exact hgrow9)
              clear hown9 hgrow9 hat9 hlt9 c0 HOWN hsX
              go_wp2_with fail
              go_roundw
              case rel => exact ⟨j + 1, by omega, by go_num, cnt + 1, some ⟨g9, 0, none⟩, ln + 1, cap9, by go_num, by omega, rfl, (⟨2, ui, ur, us⟩ : V), (⟨2, ui, ur, us⟩ : V), ns ++ [(⟨2, ui, ur, us⟩ : V)], (show ln + 1 = (ns ++ [(⟨2, ui, ur, us⟩ : V)]).length by rw [List.length_append, ← HLN.out]; rfl), by omega, (show foldA .min ((g.take (j + 1)).map (cellV rs ci)) = _ by rw [HTK.out]; exact min_t HMIN.out rfl (by rw [HC0.out, HCM.out]; simpa using hlt)), (show foldA .max ((g.take (j + 1)).map (cellV rs ci)) = _ by rw [HTK.out]; exact max_t HMAX.out rfl (by rw [HC0.out, HCN.out]; simpa using hgt)), (show numsL ((g.take (j + 1)).map (cellV rs ci)) = _ by rw [HTK.out, nums_t rfl, HNS.out]), HGR9⟩
              case measure => simp [intOf]; omega
            · skip
              go_upto_region 14 with fail
              have c0 : wb.cell? ⟨VB, 0, none⟩ = some (.int .u8 2) := cell_of_row wb _ 0 _ _ _ HNV.out
              have HOWN : Hid (wb.ownsRow B 100 4 (.slice na ln nc) ln (flatL ns)) := by have h9 := HGRX.out.own; rw [← HLN.out] at h9; exact h9
              have hsX : B ≤ wb.heap.size := HGRX.out.sz
              go_wp2_with (first | (refine wpList_get (ty := 100) _ rfl rfl rfl Yaed.underlying100 rfl HNV.out size100 ?_) | (at_builtin; go_must (refine wpList_app1 B rfl rfl Yaed.underlying94 info100 rfl rfl (HOWN.out.alloc _) (by exact heap_new rfl) (by rfl) (by intro u hu; simp at hu; rcases hu with rfl | rfl | rfl | rfl <;> rfl) (by omega) (by omega) (by omega) (by simp; omega) ?_)))
              intro g9 cap9 w22 hown9 hgrow9 hat9 hlt9
              have HGR9 : Hid (GR w GB LB MB B gv (⟨2, ui, ur, us⟩ : V) most (some ⟨g9, 0, none⟩) cap9 (ns ++ [(⟨2, ui, ur, us⟩ : V)]) w22) := by
                have h1 := HGRX.out.ext HGRX.out.bel.size (below_alloc wb (Obj.cells #[.int .u8 2, .int .i64 ui, .float .f64 ur, .string us] 100))
                exact h1.app (v := (⟨2, ui, ur, us⟩ : V)) (by omega) (by omega) (by omega) (by omega) (by rw [← HLN.out]; exact hown9) (by rw [← HLN.out]; exact hgrow9)
              clear hown9 hgrow9 hat9 hlt9 c0 HOWN hsX
              go_wp2_with fail
              go_roundw
              case rel => exact ⟨j + 1, by omega, by go_num, cnt + 1, some ⟨g9, 0, none⟩, ln + 1, cap9, by go_num, by omega, rfl, (⟨2, ui, ur, us⟩ : V), most, ns ++ [(⟨2, ui, ur, us⟩ : V)], (show ln + 1 = (ns ++ [(⟨2, ui, ur, us⟩ : V)]).length by rw [List.length_append, ← HLN.out]; rfl), by omega, (show foldA .min ((g.take (j + 1)).map (cellV rs ci)) = _ by rw [HTK.out]; exact min_t HMIN.out rfl (by rw [HC0.out, HCM.out]; simpa using hlt)), (show foldA .max ((g.take (j + 1)).map (cellV rs ci)) = _ by rw [HTK.out]; exact max_f HMAX.out rfl (by rw [HC0.out, HCN.out]; simpa using hgt)), (show numsL ((g.take (j + 1)).map (cellV rs ci)) = _ by rw [HTK.out, nums_t rfl, HNS.out]), HGR9⟩
              case measure => simp [intOf]; omega
          · skip
            go_upto_region 12 with fail
            have v0 : wa.cell? ⟨VB, 0, none⟩ = some (.int .u8 2) := cell_of_row wa _ 0 _ _ _ HNV.out
            have v1 : wa.cell? ⟨VB, 1, none⟩ = some (.int .i64 ui) := cell_of_row wa _ 1 _ _ _ HNV.out
            have v2 : wa.cell? ⟨VB, 2, none⟩ = some (.float .f64 ur) := cell_of_row wa _ 2 _ _ _ HNV.out
            have v3 : wa.cell? ⟨VB, 3, none⟩ = some (.string us) := cell_of_row wa _ 3 _ _ _ HNV.out
            have l0 : wa.cell? ⟨MB, 0, none⟩ = some (.int .u8 most.k) := cell_of_row wa _ 0 _ _ _ HGRX.out.hm
            have l1 : wa.cell? ⟨MB, 1, none⟩ = some (.int .i64 most.i) := cell_of_row wa _ 1 _ _ _ HGRX.out.hm
            have l2 : wa.cell? ⟨MB, 2, none⟩ = some (.float .f64 most.r) := cell_of_row wa _ 2 _ _ _ HGRX.out.hm
            have l3 : wa.cell? ⟨MB, 3, none⟩ = some (.string most.s) := cell_of_row wa _ 3 _ _ _ HGRX.out.hm
            go_wp2_with fail
            clear v0 v1 v2 v3 l0 l1 l2 l3
            refine (compare_any (⟨2, ui, ur, us⟩ : V) most wa).mono ?_
            rintro e wb ⟨rfl, hbb⟩
            replace HNV : Hid (wb.heap[VB]? = some (.cells #[.int .u8 2, .int .i64 ui, .float .f64 ur, .string us] 100 (0, 0))) := (hbb.block _ (block_lt HNV.out)).trans HNV.out
            replace HGRX : Hid (GR w GB LB MB B gv least most na nc ns wb) := HGRX.out.ext HGRX.out.bel.size hbb
            clear hbb
            obtain ⟨cn, hcn⟩ : ∃ cn, cmpV (⟨2, ui, ur, us⟩ : V) most = cn := ⟨_, rfl⟩
            have HCN : Hid (cmpV (⟨2, ui, ur, us⟩ : V) most = cn) := hcn
            rw [hcn]
            clear hcn
            by_cases hgt : 0 < cn
            · skip
              go_upto_region 14 with (first | (refine wpList_get (ty := 100) _ rfl rfl rfl Yaed.underlying100 rfl HNV.out size100 ?_) | (refine wpList_put (ty := 100) (g := MB) rfl rfl rfl rfl size100 (by kernel_rfl) ⟨_, HGRX.out.hm, rfl⟩ ?_; intro w23 h9 k9 s9; replace HNV : Hid (w23.heap[VB]? = some (.cells #[.int .u8 2, .int .i64 ui, .float .f64 ur, .string us] 100 (0, 0))) := (k9.block VB (by show VB ≠ MB; omega)).trans HNV.out; replace HGRX : Hid (GR w GB LB MB B gv least (⟨2, ui, ur, us⟩ : V) na nc ns w23) := HGRX.out.setM (v := (⟨2, ui, ur, us⟩ : V)) (by omega) (by omega) (by omega) (by omega) k9 h9; clear h9 k9 s9))
              have c0 : w23.cell? ⟨VB, 0, none⟩ = some (.int .u8 2) := cell_of_row w23 _ 0 _ _ _ HNV.out
              have HOWN : Hid (w23.ownsRow B 100 4 (.slice na ln nc) ln (flatL ns)) := by have h9 := HGRX.out.own; rw [← HLN.out] at h9; exact h9
              have hsX : B ≤ w23.heap.size := HGRX.out.sz
              go_wp2_with (first | (refine wpList_get (ty := 100) _ rfl rfl rfl Yaed.underlying100 rfl HNV.out size100 ?_) | (at_builtin; go_must (refine wpList_app1 B rfl rfl Yaed.underlying94 info100 rfl rfl (HOWN.out.alloc _) (by exact heap_new rfl) (by rfl) (by intro u hu; simp at hu; rcases hu with rfl | rfl | rfl | rfl <;> rfl) (by omega) (by omega) (by omega) (by simp; omega) ?_)))
              intro g9 cap9 w24 hown9 hgrow9 hat9 hlt9
              have HGR9 : Hid (GR w GB LB MB B gv least (⟨2, ui, ur, us⟩ : V) (some ⟨g9, 0, none⟩) cap9 (ns ++ [(⟨2, ui, ur, us⟩ : V)]) w24) := by
                have h1 := HGRX.out.ext HGRX.out.bel.size (below_alloc w23 (Obj.cells #[.int .u8 2, .int .i64 ui, .float .f64 ur, .string us] 100))
                exact h1.app (v := (⟨2, ui, ur, us⟩ : V)) (by omega) (by omega) (by omega) (by omega) (by rw [← HLN.out]; exact hown9) (by rw [← HLN.out]; exact hgrow9)
              clear hown9 hgrow9 hat9 hlt9 c0 HOWN hsX
              go_wp2_with fail
              go_roundw
              case rel => exact ⟨j + 1, by omega, by go_num, cnt + 1, some ⟨g9, 0, none⟩, ln + 1, cap9, by go_num, by omega, rfl, least, (⟨2, ui, ur, us⟩ : V), ns ++ [(⟨2, ui, ur, us⟩ : V)], (show ln + 1 = (ns ++ [(⟨2, ui, ur, us⟩ : V)]).length by rw [List.length_append, ← HLN.out]; rfl), by omega, (show foldA .min ((g.take (j + 1)).map (cellV rs ci)) = _ by rw [HTK.out]; exact min_f HMIN.out rfl (by rw [HC0.out, HCM.out]; simpa using hlt)), (show foldA .max ((g.take (j + 1)).map (cellV rs ci)) = _ by rw [HTK.out]; exact max_t HMAX.out rfl (by rw [HC0.out, HCN.out]; simpa using hgt)), (show numsL ((g.take (j + 1)).map (cellV rs ci)) = _ by rw [HTK.out, nums_t rfl, HNS.out]), HGR9⟩
              case measure => simp [intOf]; omega
            · skip
              go_upto_region 14 with fail
              have c0 : wb.cell? ⟨VB, 0, none⟩ = some (.int .u8 2) := cell_of_row wb _ 0 _ _ _ HNV.out
              have HOWN : Hid (wb.ownsRow B 100 4 (.slice na ln nc) ln (flatL ns)) := by have h9 := HGRX.out.own; rw [← HLN.out] at h9; exact h9
              have hsX : B ≤ wb.heap.size := HGRX.out.sz
              go_wp2_with (first | (refine wpList_get (ty := 100) _ rfl rfl rfl Yaed.underlying100 rfl HNV.out size100 ?_) | (at_builtin; go_must (refine wpList_app1 B rfl rfl Yaed.underlying94 info100 rfl rfl (HOWN.out.alloc _) (by exact heap_new rfl) (by rfl) (by intro u hu; simp at hu; rcases hu with rfl | rfl | rfl | rfl <;> rfl) (by omega) (by omega) (by omega) (by simp; omega) ?_)))
              intro g9 cap9 w25 hown9 hgrow9 hat9 hlt9
              have HGR9 : Hid (GR w GB LB MB B gv least most (some ⟨g9, 0, none⟩) cap9 (ns ++ [(⟨2, ui, ur, us⟩ : V)]) w25) := by
                have h1 := HGRX.out.ext HGRX.out.bel.size (below_alloc wb (Obj.cells #[.int .u8 2, .int .i64 ui, .float .f64 ur, .string us] 100))
                exact h1.app (v := (⟨2, ui, ur, us⟩ : V)) (by omega) (by omega) (by omega) (by omega) (by rw [← HLN.out]; exact hown9) (by rw [← HLN.out]; exact hgrow9)
              clear hown9 hgrow9 hat9 hlt9 c0 HOWN hsX
              go_wp2_with fail
              go_roundw
              case rel => exact ⟨j + 1, by omega, by go_num, cnt + 1, some ⟨g9, 0, none⟩, ln + 1, cap9, by go_num, by omega, rfl, least, most, ns ++ [(⟨2, ui, ur, us⟩ : V)], (show ln + 1 = (ns ++ [(⟨2, ui, ur, us⟩ : V)]).length by rw [List.length_append, ← HLN.out]; rfl), by omega, (show foldA .min ((g.take (j + 1)).map (cellV rs ci)) = _ by rw [HTK.out]; exact min_f HMIN.out rfl (by rw [HC0.out, HCM.out]; simpa using hlt)), (show foldA .max ((g.take (j + 1)).map (cellV rs ci)) = _ by rw [HTK.out]; exact max_f HMAX.out rfl (by rw [HC0.out, HCN.out]; simpa using hgt)), (show numsL ((g.take (j + 1)).map (cellV rs ci)) = _ by rw [HTK.out, nums_t rfl, HNS.out]), HGR9⟩
              case measure => simp [intOf]; omega
      · have c0 : w4.cell? ⟨VB, 0, none⟩ = some (.int .u8 3) := cell_of_row w4 _ 0 _ _ _ HNV.out
        have HGRX : Hid (GR w GB LB MB B gv least most na nc ns w4) := HGR4.out
        clear HGR4
        have hwc : IntKind.i64.wrap ((cnt : Int) + 1) = (cnt : Int) + 1 := IntWalk.i64_in _ (by omega)
        by_cases hc0 : cnt = 0
        · subst hc0
          go_upto_region 12 with (first | (refine wpList_get (ty := 100) _ rfl rfl rfl Yaed.underlying100 rfl HNV.out size100 ?_) | (refine wpList_put (ty := 100) (g := LB) rfl rfl rfl rfl size100 (by kernel_rfl) ⟨_, HGRX.out.hl, rfl⟩ ?_; intro w26 h9 k9 s9; replace HNV : Hid (w26.heap[VB]? = some (.cells #[.int .u8 3, .int .i64 ui, .float .f64 ur, .string us] 100 (0, 0))) := (k9.block VB (by show VB ≠ LB; omega)).trans HNV.out; replace HGRX : Hid (GR w GB LB MB B gv (⟨3, ui, ur, us⟩ : V) most na nc ns w26) := HGRX.out.setL (v := (⟨3, ui, ur, us⟩ : V)) (by omega) (by omega) (by omega) (by omega) k9 h9; clear h9 k9 s9))
          clear c0
          go_upto_region 14 with (first | (refine wpList_get (ty := 100) _ rfl rfl rfl Yaed.underlying100 rfl HNV.out size100 ?_) | (refine wpList_put (ty := 100) (g := MB) rfl rfl rfl rfl size100 (by kernel_rfl) ⟨_, HGRX.out.hm, rfl⟩ ?_; intro w27 h9 k9 s9; replace HNV : Hid (w27.heap[VB]? = some (.cells #[.int .u8 3, .int .i64 ui, .float .f64 ur, .string us] 100 (0, 0))) := (k9.block VB (by show VB ≠ MB; omega)).trans HNV.out; replace HGRX : Hid (GR w GB LB MB B gv (⟨3, ui, ur, us⟩ : V) (⟨3, ui, ur, us⟩ : V) na nc ns w27) := HGRX.out.setM (v := (⟨3, ui, ur, us⟩ : V)) (by omega) (by omega) (by omega) (by omega) k9 h9; clear h9 k9 s9))
          have c0 : w27.cell? ⟨VB, 0, none⟩ = some (.int .u8 3) := cell_of_row w27 _ 0 _ _ _ HNV.out
          go_wp2_with fail
          go_roundw
          case rel => exact ⟨j + 1, by omega, by go_num, 0 + 1, na, ln, nc, by go_num, by omega, rfl, (⟨3, ui, ur, us⟩ : V), (⟨3, ui, ur, us⟩ : V), ns, HLN, by omega, (show foldA .min ((g.take (j + 1)).map (cellV rs ci)) = _ by rw [HTK.out]; exact min_t HMIN.out rfl rfl), (show foldA .max ((g.take (j + 1)).map (cellV rs ci)) = _ by rw [HTK.out]; exact max_t HMAX.out rfl rfl), (show numsL ((g.take (j + 1)).map (cellV rs ci)) = _ by rw [HTK.out, nums_f rfl, HNS.out]), HGRX⟩
          case measure => simp [intOf]; omega
        · have hc1 : ((cnt : Int) + 1 == 1) = false := by first | (simp; omega) | simpa using hc0
          have hc2 : ¬ (cnt : Int) + 1 = 1 := by omega
          have hc3 : ¬ (cnt : Int) = 0 := by omega
          have HC0 : Hid ((cnt == 0) = false) := (show (cnt == 0) = false by simpa using hc0)
          have v0 : w4.cell? ⟨VB, 0, none⟩ = some (.int .u8 3) := cell_of_row w4 _ 0 _ _ _ HNV.out
          have v1 : w4.cell? ⟨VB, 1, none⟩ = some (.int .i64 ui) := cell_of_row w4 _ 1 _ _ _ HNV.out
          have v2 : w4.cell? ⟨VB, 2, none⟩ = some (.float .f64 ur) := cell_of_row w4 _ 2 _ _ _ HNV.out
          have v3 : w4.cell? ⟨VB, 3, none⟩ = some (.string us) := cell_of_row w4 _ 3 _ _ _ HNV.out
          have l0 : w4.cell? ⟨LB, 0, none⟩ = some (.int .u8 least.k) := cell_of_row w4 _ 0 _ _ _ HGRX.out.hl
          have l1 : w4.cell? ⟨LB, 1, none⟩ = some (.int .i64 least.i) := cell_of_row w4 _ 1 _ _ _ HGRX.out.hl
          have l2 : w4.cell? ⟨LB, 2, none⟩ = some (.float .f64 least.r) := cell_of_row w4 _ 2 _ _ _ HGRX.out.hl
          have l3 : w4.cell? ⟨LB, 3, none⟩ = some (.string least.s) := cell_of_row w4 _ 3 _ _ _ HGRX.out.hl
          clear c0
          go_wp2_with fail
          clear v0 v1 v2 v3 l0 l1 l2 l3
          refine (compare_any (⟨3, ui, ur, us⟩ : V) least w4).mono ?_
          rintro e wa ⟨rfl, hba⟩
          replace HNV : Hid (wa.heap[VB]? = some (.cells #[.int .u8 3, .int .i64 ui, .float .f64 ur, .string us] 100 (0, 0))) := (hba.block _ (block_lt HNV.out)).trans HNV.out
          replace HGRX : Hid (GR w GB LB MB B gv least most na nc ns wa) := HGRX.out.ext HGRX.out.bel.size hba
          clear hba
          obtain ⟨cm, hcm⟩ : ∃ cm, cmpV (⟨3, ui, ur, us⟩ : V) least = cm := ⟨_, rfl⟩
          have HCM : Hid (cmpV (⟨3, ui, ur, us⟩ : V) least = cm) := hcm
          rw [hcm]
          clear hcm
          by_cases hlt : cm < 0
          · skip
            go_upto_region 12 with (first | (refine wpList_get (ty := 100) _ rfl rfl rfl Yaed.underlying100 rfl HNV.out size100 ?_) | (refine wpList_put (ty := 100) (g := LB) rfl rfl rfl rfl size100 (by kernel_rfl) ⟨_, HGRX.out.hl, rfl⟩ ?_; intro w28 h9 k9 s9; replace HNV : Hid (w28.heap[VB]? = some (.cells #[.int .u8 3, .int .i64 ui, .float .f64 ur, .string us] 100 (0, 0))) := (k9.block VB (by show VB ≠ LB; omega)).trans HNV.out; replace HGRX : Hid (GR w GB LB MB B gv (⟨3, ui, ur, us⟩ : V) most na nc ns w28) := HGRX.out.setL (v := (⟨3, ui, ur, us⟩ : V)) (by omega) (by omega) (by omega) (by omega) k9 h9; clear h9 k9 s9))
            have v0 : w28.cell? ⟨VB, 0, none⟩ = some (.int .u8 3) := cell_of_row w28 _ 0 _ _ _ HNV.out
            have v1 : w28.cell? ⟨VB, 1, none⟩ = some (.int .i64 ui) := cell_of_row w28 _ 1 _ _ _ HNV.out
            have v2 : w28.cell? ⟨VB, 2, none⟩ = some (.float .f64 ur) := cell_of_row w28 _ 2 _ _ _ HNV.out
            have v3 : w28.cell? ⟨VB, 3, none⟩ = some (.string us) := cell_of_row w28 _ 3 _ _ _ HNV.out
            have l0 : w28.cell? ⟨MB, 0, none⟩ = some (.int .u8 most.k) := cell_of_row w28 _ 0 _ _ _ HGRX.out.hm
            have l1 : w28.cell? ⟨MB, 1, none⟩ = some (.int .i64 most.i) := cell_of_row w28 _ 1 _ _ _ HGRX.out.hm
            have l2 : w28.cell? ⟨MB, 2, none⟩ = some (.float .f64 most.r) := cell_of_row w28 _ 2 _ _ _ HGRX.out.hm
            have l3 : w28.cell? ⟨MB, 3, none⟩ = some (.string most.s) := cell_of_row w28 _ 3 _ _ _ HGRX.out.hm
            go_wp2_with fail
            clear v0 v1 v2 v3 l0 l1 l2 l3
            refine (compare_any (⟨3, ui, ur, us⟩ : V) most w28).mono ?_
            rintro e wb ⟨rfl, hbb⟩
            replace HNV : Hid (wb.heap[VB]? = some (.cells #[.int .u8 3, .int .i64 ui, .float .f64 ur, .string us] 100 (0, 0))) := (hbb.block _ (block_lt HNV.out)).trans HNV.out
            replace HGRX : Hid (GR w GB LB MB B gv (⟨3, ui, ur, us⟩ : V) most na nc ns wb) := HGRX.out.ext HGRX.out.bel.size hbb
            clear hbb
            obtain ⟨cn, hcn⟩ : ∃ cn, cmpV (⟨3, ui, ur, us⟩ : V) most = cn := ⟨_, rfl⟩
            have HCN : Hid (cmpV (⟨3, ui, ur, us⟩ : V) most = cn) := hcn
            rw [hcn]
            clear hcn
            by_cases hgt : 0 < cn
            · skip
              go_upto_region 14 with (first | (refine wpList_get (ty := 100) _ rfl rfl rfl Yaed.underlying100 rfl HNV.out size100 ?_) | (refine wpList_put (ty := 100) (g := MB) rfl rfl rfl rfl size100 (by kernel_rfl) ⟨_, HGRX.out.hm, rfl⟩ ?_; intro w29 h9 k9 s9; replace HNV : Hid (w29.heap[VB]? = some (.cells #[.int .u8 3, .int .i64 ui, .float .f64 ur, .string us] 100 (0, 0))) := (k9.block VB (by show VB ≠ MB; omega)).trans HNV.out; replace HGRX : Hid (GR w GB LB MB B gv (⟨3, ui, ur, us⟩ : V) (⟨3, ui, ur, us⟩ : V) na nc ns w29) := HGRX.out.setM (v := (⟨3, ui, ur, us⟩ : V)) (by omega) (by omega) (by omega) (by omega) k9 h9; clear h9 k9 s9))
              have c0 : w29.cell? ⟨VB, 0, none⟩ = some (.int .u8 3) := cell_of_row w29 _ 0 _ _ _ HNV.out
              go_wp2_with fail
              go_roundw
              case rel => exact ⟨j + 1, by omega, by go_num, cnt + 1, na, ln, nc, by go_num, by omega, rfl, (⟨3, ui, ur, us⟩ : V), (⟨3, ui, ur, us⟩ : V), ns, HLN, by omega, (show foldA .min ((g.take (j + 1)).map (cellV rs ci)) = _ by rw [HTK.out]; exact min_t HMIN.out rfl (by rw [HC0.out, HCM.out]; simpa using hlt)), (show foldA .max ((g.take (j + 1)).map (cellV rs ci)) = _ by rw [HTK.out]; exact max_t HMAX.out rfl (by rw [HC0.out, HCN.out]; simpa using hgt)), (show numsL ((g.take (j + 1)).map (cellV rs ci)) = _ by rw [HTK.out, nums_f rfl, HNS.out]), HGRX⟩
              case measure => simp [intOf]; omega
            · skip
              go_upto_region 14 with fail
              have c0 : wb.cell? ⟨VB, 0, none⟩ = some (.int .u8 3) := cell_of_row wb _ 0 _ _ _ HNV.out
              go_wp2_with fail
              go_roundw
              case rel => exact ⟨j + 1, by omega, by go_num, cnt + 1, na, ln, nc, by go_num, by omega, rfl, (⟨3, ui, ur, us⟩ : V), most, ns, HLN, by omega, (show foldA .min ((g.take (j + 1)).map (cellV rs ci)) = _ by rw [HTK.out]; exact min_t HMIN.out rfl (by rw [HC0.out, HCM.out]; simpa using hlt)), (show foldA .max ((g.take (j + 1)).map (cellV rs ci)) = _ by rw [HTK.out]; exact max_f HMAX.out rfl (by rw [HC0.out, HCN.out]; simpa using hgt)), (show numsL ((g.take (j + 1)).map (cellV rs ci)) = _ by rw [HTK.out, nums_f rfl, HNS.out]), HGRX⟩
              case measure => simp [intOf]; omega
          · skip
            go_upto_region 12 with fail
            have v0 : wa.cell? ⟨VB, 0, none⟩ = some (.int .u8 3) := cell_of_row wa _ 0 _ _ _ HNV.out
            have v1 : wa.cell? ⟨VB, 1, none⟩ = some (.int .i64 ui) := cell_of_row wa _ 1 _ _ _ HNV.out
            have v2 : wa.cell? ⟨VB, 2, none⟩ = some (.float .f64 ur) := cell_of_row wa _ 2 _ _ _ HNV.out
            have v3 : wa.cell? ⟨VB, 3, none⟩ = some (.string us) := cell_of_row wa _ 3 _ _ _ HNV.out
            have l0 : wa.cell? ⟨MB, 0, none⟩ = some (.int .u8 most.k) := cell_of_row wa _ 0 _ _ _ HGRX.out.hm
            have l1 : wa.cell? ⟨MB, 1, none⟩ = some (.int .i64 most.i) := cell_of_row wa _ 1 _ _ _ HGRX.out.hm
            have l2 : wa.cell? ⟨MB, 2, none⟩ = some (.float .f64 most.r) := cell_of_row wa _ 2 _ _ _ HGRX.out.hm
            have l3 : wa.cell? ⟨MB, 3, none⟩ = some (.string most.s) := cell_of_row wa _ 3 _ _ _ HGRX.out.hm
            go_wp2_with fail
            clear v0 v1 v2 v3 l0 l1 l2 l3
            refine (compare_any (⟨3, ui, ur, us⟩ : V) most wa).mono ?_
            rintro e wb ⟨rfl, hbb⟩
            replace HNV : Hid (wb.heap[VB]? = some (.cells #[.int .u8 3, .int .i64 ui, .float .f64 ur, .string us] 100 (0, 0))) := (hbb.block _ (block_lt HNV.out)).trans HNV.out
            replace HGRX : Hid (GR w GB LB MB B gv least most na nc ns wb) := HGRX.out.ext HGRX.out.bel.size hbb
            clear hbb
            obtain ⟨cn, hcn⟩ : ∃ cn, cmpV (⟨3, ui, ur, us⟩ : V) most = cn := ⟨_, rfl⟩
            have HCN : Hid (cmpV (⟨3, ui, ur, us⟩ : V) most = cn) := hcn
            rw [hcn]
            clear hcn
            by_cases hgt : 0 < cn
            · skip
              go_upto_region 14 with (first | (refine wpList_get (ty := 100) _ rfl rfl rfl Yaed.underlying100 rfl HNV.out size100 ?_) | (refine wpList_put (ty := 100) (g := MB) rfl rfl rfl rfl size100 (by kernel_rfl) ⟨_, HGRX.out.hm, rfl⟩ ?_; intro w30 h9 k9 s9; replace HNV : Hid (w30.heap[VB]? = some (.cells #[.int .u8 3, .int .i64 ui, .float .f64 ur, .string us] 100 (0, 0))) := (k9.block VB (by show VB ≠ MB; omega)).trans HNV.out; replace HGRX : Hid (GR w GB LB MB B gv least (⟨3, ui, ur, us⟩ : V) na nc ns w30) := HGRX.out.setM (v := (⟨3, ui, ur, us⟩ : V)) (by omega) (by omega) (by omega) (by omega) k9 h9; clear h9 k9 s9))
              have c0 : w30.cell? ⟨VB, 0, none⟩ = some (.int .u8 3) := cell_of_row w30 _ 0 _ _ _ HNV.out
              go_wp2_with fail
              go_roundw
              case rel => exact ⟨j + 1, by omega, by go_num, cnt + 1, na, ln, nc, by go_num, by omega, rfl, least, (⟨3, ui, ur, us⟩ : V), ns, HLN, by omega, (show foldA .min ((g.take (j + 1)).map (cellV rs ci)) = _ by rw [HTK.out]; exact min_f HMIN.out rfl (by rw [HC0.out, HCM.out]; simpa using hlt)), (show foldA .max ((g.take (j + 1)).map (cellV rs ci)) = _ by rw [HTK.out]; exact max_t HMAX.out rfl (by rw [HC0.out, HCN.out]; simpa using hgt)), (show numsL ((g.take (j + 1)).map (cellV rs ci)) = _ by rw [HTK.out, nums_f rfl, HNS.out]), HGRX⟩
              case measure => simp [intOf]; omega
            · skip
              go_upto_region 14 with fail
              have c0 : wb.cell? ⟨VB, 0, none⟩ = some (.int .u8 3) := cell_of_row wb _ 0 _ _ _ HNV.out
              go_wp2_with fail
              go_roundw
              case rel => exact ⟨j + 1, by omega, by go_num, cnt + 1, na, ln, nc, by go_num, by omega, rfl, least, most, ns, HLN, by omega, (show foldA .min ((g.take (j + 1)).map (cellV rs ci)) = _ by rw [HTK.out]; exact min_f HMIN.out rfl (by rw [HC0.out, HCM.out]; simpa using hlt)), (show foldA .max ((g.take (j + 1)).map (cellV rs ci)) = _ by rw [HTK.out]; exact max_f HMAX.out rfl (by rw [HC0.out, HCN.out]; simpa using hgt)), (show numsL ((g.take (j + 1)).map (cellV rs ci)) = _ by rw [HTK.out, nums_f rfl, HNS.out]), HGRX⟩
              case measure => simp [intOf]; omega
    · obtain rfl : j = g.length := by omega
      rw [List.take_length] at HMIN HMAX HNS
      clear HGC HLR
      go_upto_region 18 with fail
      generalize hw1 : World.alloc (World.alloc _ _) _ = w1
      obtain ⟨AB, hAB⟩ : ∃ AB, wr.heap.size + 1 = AB := ⟨_, rfl⟩
      obtain ⟨SB, hSB⟩ : ∃ SB, wr.heap.size = SB := ⟨_, rfl⟩
      rw [hAB, hSB]
      have hB1 := HGR.out.bel.size
      have hB2 := HGR.out.sz
      have HBW1 : Hid (Below wr.heap.size wr w1) := by rw [← hw1]; exact (below_alloc _ _).trans ((below_alloc _ _).mono (by simp))
      have HGR1 : Hid (GR w GB LB MB B gv least most na nc ns w1) := HGR.out.ext hB1 HBW1.out
      have HS1 : Hid (w1.heap[SB]? = some (.cells #[.int .u8 V0.k, .int .i64 V0.i, .float .f64 V0.r, .string V0.s] 100 (0, 0))) := by rw [← hw1, ← hSB]; exact (heap_old (by simp)).trans (heap_new rfl)
      have HA1 : Hid (w1.heap[AB]? = some (.cells #[.int .u8 V0.k, .int .i64 V0.i, .float .f64 V0.r, .string V0.s] 100 (0, 0))) := by rw [← hw1, ← hAB]; exact heap_new (by simp)
      have hSA : B ≤ SB ∧ SB < AB ∧ AB < w1.heap.size := by
        have h1 := block_lt HA1.out
        omega
      have HSO : Hid (∀ g', (Value.slice na ns.length nc).ownBlock = some g' → g' < SB) := fun g' hg' => by rw [← hSB]; exact (HGR.out.own.lt g' hg').2
      clear hw1 hAB hSB HGR HBW1 hB1 hB2
      obtain ⟨sv, av, hsv, hav⟩ : ∃ sv av, sumL ns = sv ∧ (if ns.length = 0 then V0 else divV (toRealV (sumL ns)) ns.length) = av := ⟨_, _, rfl, rfl⟩
      have HSV : Hid (sumL ns = sv) := hsv
      have HAV : Hid ((if ns.length = 0 then V0 else divV (toRealV (sumL ns)) ns.length) = av) := hav
      clear hsv hav
      have HRVT : Hid (∀ t, t < 7 → RV t = [norm gv, intV g.length, intV cnt, sv, av, least, most].getD t V0) := fun t ht => by
        rw [← HRV.out, ← HSV.out, ← HAV.out, ← HNS.out]
        unfold rowVal
        rw [row_cnt, row_sum, row_avg, row_min, row_max, HMIN.out, HMAX.out]
        rcases (by omega : t = 0 ∨ t = 1 ∨ t = 2 ∨ t = 3 ∨ t = 4 ∨ t = 5 ∨ t = 6) with rfl | rfl | rfl | rfl | rfl | rfl | rfl <;> rfl
      by_cases hl0 : ln = 0
      · have hns : ns = [] := List.eq_nil_of_length_eq_zero (by rw [← HLN.out]; exact hl0)
        have hsv : sv = V0 := by rw [← HSV.out, hns]; rfl
        have hav : av = V0 := by rw [← HAV.out, hns]; rfl
        subst hl0
        replace HS1 : Hid (w1.heap[SB]? = some (.cells #[.int .u8 sv.k, .int .i64 sv.i, .float .f64 sv.r, .string sv.s] 100 (0, 0))) := by rw [hsv]; exact HS1.out
        replace HA1 : Hid (w1.heap[AB]? = some (.cells #[.int .u8 av.k, .int .i64 av.i, .float .f64 av.r, .string av.s] 100 (0, 0))) := by rw [hav]; exact HA1.out
        clear hsv hav hns
        go_upto_region 26 with fail
        have HSX : Hid (∀ W, Below w1.heap.size w1 W → W.heap[GB]? = some (.cells #[.int .u8 gv.k, .int .i64 gv.i, .float .f64 gv.r, .string gv.s] 100 (0, 0)) ∧ W.heap[SB]? = some (.cells #[.int .u8 sv.k, .int .i64 sv.i, .float .f64 sv.r, .string sv.s] 100 (0, 0)) ∧ W.heap[AB]? = some (.cells #[.int .u8 av.k, .int .i64 av.i, .float .f64 av.r, .string av.s] 100 (0, 0)) ∧ W.heap[LB]? = some (.cells #[.int .u8 least.k, .int .i64 least.i, .float .f64 least.r, .string least.s] 100 (0, 0)) ∧ W.heap[MB]? = some (.cells #[.int .u8 most.k, .int .i64 most.i, .float .f64 most.r, .string most.s] 100 (0, 0))) := fun W hW => ⟨(hW.block _ (block_lt HGR1.out.hg)).trans HGR1.out.hg, (hW.block _ (block_lt HS1.out)).trans HS1.out, (hW.block _ (block_lt HA1.out)).trans HA1.out, (hW.block _ (block_lt HGR1.out.hl)).trans HGR1.out.hl, (hW.block _ (block_lt HGR1.out.hm)).trans HGR1.out.hm⟩
        have HBWX : Hid (Below w.heap.size w w1) := HGR1.out.bel
        refine wp_region_can (l := [_, _, _, _, _, _, _, _, _, _, _]) [(true, 0), (true, 2), (true, 3), (true, 5), (true, 7), (true, 8), (true, 9), (true, 10), (false, 1), (false, 4), (false, 6)] (fun W => W.heap[GB]? = some (.cells #[.int .u8 gv.k, .int .i64 gv.i, .float .f64 gv.r, .string gv.s] 100 (0, 0)) ∧ W.heap[SB]? = some (.cells #[.int .u8 sv.k, .int .i64 sv.i, .float .f64 sv.r, .string sv.s] 100 (0, 0)) ∧ W.heap[AB]? = some (.cells #[.int .u8 av.k, .int .i64 av.i, .float .f64 av.r, .string av.s] 100 (0, 0)) ∧ W.heap[LB]? = some (.cells #[.int .u8 least.k, .int .i64 least.i, .float .f64 least.r, .string least.s] 100 (0, 0)) ∧ W.heap[MB]? = some (.cells #[.int .u8 most.k, .int .i64 most.i, .float .f64 most.r, .string most.s] 100 (0, 0))) (by kernel_rfl) (by kernel_rfl) (HSX.out _ (Below.refl _ _).drew) ?_
        repeat (((refine wpCan_q (v := ?_) rfl rfl rfl ?_ ?_); rotate_left; (focus (rintro W ⟨q1, q2, q3, q4, q5⟩; have a0 := cell_of_row W _ 0 _ _ _ q1; have a1 := cell_of_row W _ 1 _ _ _ q1; have a2 := cell_of_row W _ 2 _ _ _ q1; have a3 := cell_of_row W _ 3 _ _ _ q1; have b0 := cell_of_row W _ 0 _ _ _ q2; have b1 := cell_of_row W _ 1 _ _ _ q2; have b2 := cell_of_row W _ 2 _ _ _ q2; have b3 := cell_of_row W _ 3 _ _ _ q2; have c0 := cell_of_row W _ 0 _ _ _ q3; have c1 := cell_of_row W _ 1 _ _ _ q3; have c2 := cell_of_row W _ 2 _ _ _ q3; have c3 := cell_of_row W _ 3 _ _ _ q3; have d0 := cell_of_row W _ 0 _ _ _ q4; have d1 := cell_of_row W _ 1 _ _ _ q4; have d2 := cell_of_row W _ 2 _ _ _ q4; have d3 := cell_of_row W _ 3 _ _ _ q4; have e0 := cell_of_row W _ 0 _ _ _ q5; have e1 := cell_of_row W _ 1 _ _ _ q5; have e2 := cell_of_row W _ 2 _ _ _ q5; have e3 := cell_of_row W _ 3 _ _ _ q5; simp only [List.getElem?_toArray, List.getElem?_cons_zero, List.getElem?_cons_succ] at a0 a1 a2 a3 b0 b1 b2 b3 c0 c1 c2 c3 d0 d1 d2 d3 e0 e1 e2 e3; clear q1 q2 q3 q4 q5; go_simp; first | done | exact rfl)); simp only [Act.put, List.setIfInBounds_toArray, List.set_cons_zero, List.set_cons_succ]))
        refine wpCan_e rfl rfl (fun K hK => ?_)
        refine wp_call1 call64 rfl rfl ?_
        refine (norm_any gv _).mono ?_
        rintro e wA ⟨rfl, hb⟩
        have HBA : Hid (Below w1.heap.size w1 wA) := below_of_drew hb
        clear hb
        refine ⟨_, rfl, hK _ _ ⟨HSX.out _ HBA.out, ?_⟩⟩
        clear hK K
        simp only [Act.put, List.setIfInBounds_toArray, List.set_cons_zero, List.set_cons_succ]
        refine wpCan_e rfl rfl (fun K hK => ?_)
        refine wp_call1 call70 rfl rfl ?_
        refine (intV_any (g.length : Int) _).mono ?_
        rintro e wB ⟨rfl, hb⟩
        have HBB : Hid (Below w1.heap.size w1 wB) := HBA.out.trans (hb.mono HBA.out.size)
        clear hb
        refine ⟨_, rfl, hK _ _ ⟨HSX.out _ HBB.out, ?_⟩⟩
        clear hK K
        simp only [Act.put, List.setIfInBounds_toArray, List.set_cons_zero, List.set_cons_succ]
        refine wpCan_e rfl rfl (fun K hK => ?_)
        refine wp_call1 call70 rfl rfl ?_
        refine (intV_any (cnt : Int) _).mono ?_
        rintro e wC ⟨rfl, hb⟩
        have HBC : Hid (Below w1.heap.size w1 wC) := HBB.out.trans (hb.mono HBB.out.size)
        clear hb
        refine ⟨_, rfl, hK _ _ ⟨HSX.out _ HBC.out, ?_⟩⟩
        clear hK K
        simp only [Act.put, List.setIfInBounds_toArray, List.set_cons_zero, List.set_cons_succ]
        refine wpCan_nil ?_
        refine wpList_plain rfl (fun _ hK => wp_bs7 (norm gv) (intV g.length) (intV cnt) sv av least most rfl rfl rfl rfl rfl rfl rfl rfl (hK _ _ ?_))
        have hsC : w.heap.size ≤ wC.heap.size := by have h1 := HBWX.out.size; have h2 := HBC.out.size; omega
        have HBCW : Hid (Below w.heap.size w wC) := HBWX.out.trans (HBC.out.mono HBWX.out.size)
        generalize hwD : World.alloc _ _ = wD
        have HND : Hid (wD.heap[wC.heap.size]? = some (.cells (flatL [norm gv, intV g.length, intV cnt, sv, av, least, most]).toArray 100 (0, 0))) := by rw [← hwD]; exact heap_new rfl
        have HBD : Hid (Below wC.heap.size wC wD) := by rw [← hwD]; exact below_alloc _ _
        clear hwD
        go_wp2_with fail
        go_ret
        refine ⟨wC.heap.size, rfl, hsC, block_lt HND.out, fun t ht j x hx => ?_, HBCW.out.trans (HBD.out.mono hsC)⟩
        rw [HRVT.out t ht] at hx
        have h1 := flatL_get _ t (show t < [norm gv, intV g.length, intV cnt, sv, av, least, most].length from ht) j x hx
        rw [cell_of_row wD _ _ _ _ _ HND.out, List.getElem?_toArray]
        exact h1
      · obtain ⟨nb, hnb⟩ : ∃ nb, na = some ⟨nb, 0, none⟩ := by
          rcases HGR1.out.own.2 with ⟨_, h1⟩ | ⟨g', cap, cur, h1, _⟩
          · exact absurd (HLN.out.trans h1) hl0
          · simp at h1; exact ⟨g', h1.1⟩
        subst hnb
        have hnbS : nb < SB := HSO.out nb rfl
        have hcap : ln ≤ nc := by
          rcases HGR1.out.own.2 with ⟨h1, _⟩ | ⟨g', cap, cur, h1, _, _, h2, _⟩
          · simp at h1
          · simp only [Value.slice.injEq] at h1
            rw [HLN.out, h1.2.2]; exact h2
        have hln0 : (0 : Int) < ln := by omega
        have hln1 : ¬ (ln : Int) < 1 := by omega
        have R0 : Hid (w1.rangeAt nb 0 (ns.getD 0 V0).list) := by
          have h1 := HGR1.out.own
          rw [← HLN.out] at h1
          have h2 := ownL_range HLN.out h1 0 (by omega)
          rw [Nat.zero_mul] at h2
          exact h2
        obtain ⟨n0, hn0⟩ : ∃ n0, ns.getD 0 V0 = n0 := ⟨_, rfl⟩
        rw [hn0] at R0
        have HN0 : Hid (sumL (ns.take 1) = n0) := by
          rw [← hn0]
          cases ns with
          | nil => exact absurd HLN.out hl0
          | cons a t => rfl
        clear hn0
        go_upto_region 20 with (first | (refine wpList_load_mid rfl 100 _ rfl nb 0 rfl n0.list _ R0.out Yaed.underlying100 rfl size100 ?_) | (refine wpList_put (ty := 100) (g := SB) rfl rfl rfl rfl size100 (by kernel_rfl) ⟨_, HS1.out, rfl⟩ ?_; intro w2 h9 k9 s9; have HS2 : Hid (w2.heap[SB]? = some (.cells #[.int .u8 n0.k, .int .i64 n0.i, .float .f64 n0.r, .string n0.s] 100 (0, 0))) := h9; have HA2 : Hid (w2.heap[AB]? = some (.cells #[.int .u8 V0.k, .int .i64 V0.i, .float .f64 V0.r, .string V0.s] 100 (0, 0))) := (k9.block AB (by show AB ≠ SB; omega)).trans HA1.out; have HGR2 : Hid (GR w GB LB MB B gv least most (some ⟨nb, 0, none⟩) nc ns w2) := HGR1.out.put (by omega) (by omega) (by omega) (by omega) (by omega) (fun g' hg' => by have := HSO.out g' hg'; omega) k9; clear h9 k9 s9))
        clear HGR1 HS1 HA1 R0
        by_cases hnc : nc = 1
        · subst hnc
          obtain rfl : ln = 1 := by omega
          have HSV1 : Hid (n0 = sv) := by
            rw [← HN0.out, ← HSV.out]
            have h1 : ns.take 1 = ns := List.take_of_length_le (by rw [← HLN.out]; exact Nat.le_refl _)
            rw [h1]; exact rfl
          have HS1 : Hid (w2.heap[SB]? = some (.cells #[.int .u8 sv.k, .int .i64 sv.i, .float .f64 sv.r, .string sv.s] 100 (0, 0))) := by rw [← HSV1.out]; exact HS2.out
          have HA1 : Hid (w2.heap[AB]? = some (.cells #[.int .u8 V0.k, .int .i64 V0.i, .float .f64 V0.r, .string V0.s] 100 (0, 0))) := HA2.out
          have HGR1 : Hid (GR w GB LB MB B gv least most (some ⟨nb, 0, none⟩) 1 ns w2) := HGR2.out
          clear HS2 HA2 HGR2
          go_wp2_with fail
          refine wp_loop_rounds 1 ?_
          rw [rounds_succ]
          have HAVE : Hid (av = divV (toRealV sv) (1 : Nat)) := by rw [← HAV.out, ← HSV.out, ← HLN.out, if_neg hl0]; exact rfl
          have hSA' := block_lt HA1.out
          go_wp2_with (refine wpList_get (ty := 100) _ rfl rfl rfl Yaed.underlying100 rfl HS1.out size100 ?_)
          refine (toReal_any sv _).mono ?_
          rintro e wE ⟨rfl, hbE⟩
          have HBE : Hid (Below w2.heap.size w2 wE) := hbE
          clear hbE
          go_wp2_with fail
          refine (intV_any ((1 : Nat) : Int) _).mono ?_
          rintro e wF ⟨rfl, hbF⟩
          have HBF : Hid (Below w2.heap.size w2 wF) := HBE.out.trans (hbF.mono HBE.out.size)
          clear hbF HBE
          go_wp2_with fail
          refine (arith_div (toRealV sv) (intV (1 : Nat)) (toReal_kind sv) ((1 : Nat) : Int) rfl _).mono ?_
          rintro e wG ⟨rfl, hbG⟩
          have HBG : Hid (Below w2.heap.size w2 wG) := HBF.out.trans (hbG.mono HBF.out.size)
          clear hbG HBF
          rw [← HAVE.out]
          have HGRG : Hid (GR w GB LB MB B gv least most (some ⟨nb, 0, none⟩) 1 ns wG) := HGR1.out.ext HGR1.out.bel.size HBG.out
          have HSG : Hid (wG.heap[SB]? = some (.cells #[.int .u8 sv.k, .int .i64 sv.i, .float .f64 sv.r, .string sv.s] 100 (0, 0))) := (HBG.out.block _ (block_lt HS1.out)).trans HS1.out
          have HAG : Hid (wG.heap[AB]? = some (.cells #[.int .u8 V0.k, .int .i64 V0.i, .float .f64 V0.r, .string V0.s] 100 (0, 0))) := (HBG.out.block _ (block_lt HA1.out)).trans HA1.out
          clear HGR1 HS1 HA1 HBG
          unfold V.val
          go_upto_region 26 with (refine wpList_put (ty := 100) (g := AB) rfl rfl rfl rfl size100 (by kernel_rfl) ⟨_, HAG.out, rfl⟩ ?_; intro wH h9 k9 s9; have HA1 : Hid (wH.heap[AB]? = some (.cells #[.int .u8 av.k, .int .i64 av.i, .float .f64 av.r, .string av.s] 100 (0, 0))) := h9; have HS1 : Hid (wH.heap[SB]? = some (.cells #[.int .u8 sv.k, .int .i64 sv.i, .float .f64 sv.r, .string sv.s] 100 (0, 0))) := (k9.block SB (by show SB ≠ AB; omega)).trans HSG.out; have HGR1 : Hid (GR w GB LB MB B gv least most (some ⟨nb, 0, none⟩) 1 ns wH) := HGRG.out.put (by omega) (by omega) (by omega) (by omega) (by omega) (fun g' hg' => by have := HSO.out g' hg'; omega) k9; clear h9 k9 s9)
          have HSX : Hid (∀ W, Below wH.heap.size wH W → W.heap[GB]? = some (.cells #[.int .u8 gv.k, .int .i64 gv.i, .float .f64 gv.r, .string gv.s] 100 (0, 0)) ∧ W.heap[SB]? = some (.cells #[.int .u8 sv.k, .int .i64 sv.i, .float .f64 sv.r, .string sv.s] 100 (0, 0)) ∧ W.heap[AB]? = some (.cells #[.int .u8 av.k, .int .i64 av.i, .float .f64 av.r, .string av.s] 100 (0, 0)) ∧ W.heap[LB]? = some (.cells #[.int .u8 least.k, .int .i64 least.i, .float .f64 least.r, .string least.s] 100 (0, 0)) ∧ W.heap[MB]? = some (.cells #[.int .u8 most.k, .int .i64 most.i, .float .f64 most.r, .string most.s] 100 (0, 0))) := fun W hW => ⟨(hW.block _ (block_lt HGR1.out.hg)).trans HGR1.out.hg, (hW.block _ (block_lt HS1.out)).trans HS1.out, (hW.block _ (block_lt HA1.out)).trans HA1.out, (hW.block _ (block_lt HGR1.out.hl)).trans HGR1.out.hl, (hW.block _ (block_lt HGR1.out.hm)).trans HGR1.out.hm⟩
          have HBWX : Hid (Below w.heap.size w wH) := HGR1.out.bel
          refine wp_region_can (l := [_, _, _, _, _, _, _, _, _, _, _]) [(true, 0), (true, 2), (true, 3), (true, 5), (true, 7), (true, 8), (true, 9), (true, 10), (false, 1), (false, 4), (false, 6)] (fun W => W.heap[GB]? = some (.cells #[.int .u8 gv.k, .int .i64 gv.i, .float .f64 gv.r, .string gv.s] 100 (0, 0)) ∧ W.heap[SB]? = some (.cells #[.int .u8 sv.k, .int .i64 sv.i, .float .f64 sv.r, .string sv.s] 100 (0, 0)) ∧ W.heap[AB]? = some (.cells #[.int .u8 av.k, .int .i64 av.i, .float .f64 av.r, .string av.s] 100 (0, 0)) ∧ W.heap[LB]? = some (.cells #[.int .u8 least.k, .int .i64 least.i, .float .f64 least.r, .string least.s] 100 (0, 0)) ∧ W.heap[MB]? = some (.cells #[.int .u8 most.k, .int .i64 most.i, .float .f64 most.r, .string most.s] 100 (0, 0))) (by kernel_rfl) (by kernel_rfl) (HSX.out _ (Below.refl _ _).drew) ?_
          repeat (((refine wpCan_q (v := ?_) rfl rfl rfl ?_ ?_); rotate_left; (focus (rintro W ⟨q1, q2, q3, q4, q5⟩; have a0 := cell_of_row W _ 0 _ _ _ q1; have a1 := cell_of_row W _ 1 _ _ _ q1; have a2 := cell_of_row W _ 2 _ _ _ q1; have a3 := cell_of_row W _ 3 _ _ _ q1; have b0 := cell_of_row W _ 0 _ _ _ q2; have b1 := cell_of_row W _ 1 _ _ _ q2; have b2 := cell_of_row W _ 2 _ _ _ q2; have b3 := cell_of_row W _ 3 _ _ _ q2; have c0 := cell_of_row W _ 0 _ _ _ q3; have c1 := cell_of_row W _ 1 _ _ _ q3; have c2 := cell_of_row W _ 2 _ _ _ q3; have c3 := cell_of_row W _ 3 _ _ _ q3; have d0 := cell_of_row W _ 0 _ _ _ q4; have d1 := cell_of_row W _ 1 _ _ _ q4; have d2 := cell_of_row W _ 2 _ _ _ q4; have d3 := cell_of_row W _ 3 _ _ _ q4; have e0 := cell_of_row W _ 0 _ _ _ q5; have e1 := cell_of_row W _ 1 _ _ _ q5; have e2 := cell_of_row W _ 2 _ _ _ q5; have e3 := cell_of_row W _ 3 _ _ _ q5; simp only [List.getElem?_toArray, List.getElem?_cons_zero, List.getElem?_cons_succ] at a0 a1 a2 a3 b0 b1 b2 b3 c0 c1 c2 c3 d0 d1 d2 d3 e0 e1 e2 e3; clear q1 q2 q3 q4 q5; go_simp; first | done | exact rfl)); simp only [Act.put, List.setIfInBounds_toArray, List.set_cons_zero, List.set_cons_succ]))
          refine wpCan_e rfl rfl (fun K hK => ?_)
          refine wp_call1 call64 rfl rfl ?_
          refine (norm_any gv _).mono ?_
          rintro e wA ⟨rfl, hb⟩
          have HBA : Hid (Below wH.heap.size wH wA) := below_of_drew hb
          clear hb
          refine ⟨_, rfl, hK _ _ ⟨HSX.out _ HBA.out, ?_⟩⟩
          clear hK K
          simp only [Act.put, List.setIfInBounds_toArray, List.set_cons_zero, List.set_cons_succ]
          refine wpCan_e rfl rfl (fun K hK => ?_)
          refine wp_call1 call70 rfl rfl ?_
          refine (intV_any (g.length : Int) _).mono ?_
          rintro e wB ⟨rfl, hb⟩
          have HBB : Hid (Below wH.heap.size wH wB) := HBA.out.trans (hb.mono HBA.out.size)
          clear hb
          refine ⟨_, rfl, hK _ _ ⟨HSX.out _ HBB.out, ?_⟩⟩
          clear hK K
          simp only [Act.put, List.setIfInBounds_toArray, List.set_cons_zero, List.set_cons_succ]
          refine wpCan_e rfl rfl (fun K hK => ?_)
          refine wp_call1 call70 rfl rfl ?_
          refine (intV_any (cnt : Int) _).mono ?_
          rintro e wC ⟨rfl, hb⟩
          have HBC : Hid (Below wH.heap.size wH wC) := HBB.out.trans (hb.mono HBB.out.size)
          clear hb
          refine ⟨_, rfl, hK _ _ ⟨HSX.out _ HBC.out, ?_⟩⟩
          clear hK K
          simp only [Act.put, List.setIfInBounds_toArray, List.set_cons_zero, List.set_cons_succ]
          refine wpCan_nil ?_
          refine wpList_plain rfl (fun _ hK => wp_bs7 (norm gv) (intV g.length) (intV cnt) sv av least most rfl rfl rfl rfl rfl rfl rfl rfl (hK _ _ ?_))
          have hsC : w.heap.size ≤ wC.heap.size := by have h1 := HBWX.out.size; have h2 := HBC.out.size; omega
          have HBCW : Hid (Below w.heap.size w wC) := HBWX.out.trans (HBC.out.mono HBWX.out.size)
          generalize hwD : World.alloc _ _ = wD
          have HND : Hid (wD.heap[wC.heap.size]? = some (.cells (flatL [norm gv, intV g.length, intV cnt, sv, av, least, most]).toArray 100 (0, 0))) := by rw [← hwD]; exact heap_new rfl
          have HBD : Hid (Below wC.heap.size wC wD) := by rw [← hwD]; exact below_alloc _ _
          clear hwD
          go_wp2_with fail
          go_ret
          refine ⟨wC.heap.size, rfl, hsC, block_lt HND.out, fun t ht j x hx => ?_, HBCW.out.trans (HBD.out.mono hsC)⟩
          rw [HRVT.out t ht] at hx
          have h1 := flatL_get _ t (show t < [norm gv, intV g.length, intV cnt, sv, av, least, most].length from ht) j x hx
          rw [cell_of_row wD _ _ _ _ _ HND.out, List.getElem?_toArray]
          exact h1
        · obtain ⟨l1, rfl⟩ : ∃ l1, ln = l1 + 1 := ⟨ln - 1, by omega⟩
          have hncI : ¬ (nc : Int) = 1 := by omega
          have hnc2 : (1 : Int) ≤ nc := by omega
          have hcapI : ((l1 : Int) + 1) ≤ nc := by omega
          go_upto_region 21 with fail
          go_loopw [79] (fun cq wr => ∃ q : Nat, q ≤ l1 ∧ cq = .int .i64 q ∧ ∃ sq : V, Hid (sumL (ns.take (q + 1)) = sq) ∧ Hid (wr.heap[SB]? = some (.cells #[.int .u8 sq.k, .int .i64 sq.i, .float .f64 sq.r, .string sq.s] 100 (0, 0))) ∧ Hid (wr.heap[AB]? = some (.cells #[.int .u8 V0.k, .int .i64 V0.i, .float .f64 V0.r, .string V0.s] 100 (0, 0))) ∧ Hid (GR w GB LB MB B gv least most (some ⟨nb, 0, none⟩) nc ns wr)) (fun cq _ => l1 - (intOf cq).toNat)
          case atStart => exact ⟨0, Nat.zero_le _, rfl, n0, HN0, HS2, HA2, HGR2⟩
          case round =>
            clear HN0 HS2 HA2 HGR2
            obtain ⟨q, hq, rfl, sq, HSQ, HS, HA, HGR⟩ := hrel
            by_cases hql : q < l1
            · have hql' : (q : Int) < l1 := by omega
              have hq0 : ¬ (q : Int) < 0 := by omega
              have HX : Hid (wr.rangeAt nb (4 + q * 4) (ns.getD (q + 1) V0).list) := by
                have h1 := HGR.out.own
                rw [← HLN.out] at h1
                have h2 := ownL_range HLN.out h1 (q + 1) (by omega)
                rw [show (q + 1) * 4 = 4 + q * 4 by omega] at h2
                exact h2
              have hq1 : q + 1 < ns.length := by rw [← HLN.out]; omega
              have HTK : Hid (ns.take (q + 1 + 1) = ns.take (q + 1) ++ [ns.getD (q + 1) V0]) := by
                rw [List.take_add_one, List.getElem?_eq_getElem hq1, List.getD_eq_getElem?_getD, List.getElem?_eq_getElem hq1]; exact rfl
              obtain ⟨x, hx⟩ : ∃ x, ns.getD (q + 1) V0 = x := ⟨_, rfl⟩
              rw [hx] at HX HTK
              have HSN : Hid (sumL (ns.take (q + 1 + 1)) = addV sq x) := by
                rw [HTK.out, sumL_snoc, if_neg (by rw [List.length_take]; omega), HSQ.out]; exact rfl
              have hwB := HGR.out.bel.size
              have hSlt := block_lt HS.out
              have hAlt := block_lt HA.out
              clear hx hq1 HTK HSQ
              go_upto_region 23 with (first | (refine wpList_load_mid rfl 100 _ rfl nb (4 + q * 4) rfl x.list _ HX.out Yaed.underlying100 rfl size100 ?_) | (refine wpList_put (ty := 100) (g := wr.heap.size) rfl rfl rfl rfl size100 (by kernel_rfl) ⟨_, heap_new rfl, rfl⟩ ?_; intro w3 h9 k9 s9; have HNT : Hid (w3.heap[wr.heap.size]? = some (.cells #[.int .u8 x.k, .int .i64 x.i, .float .f64 x.r, .string x.s] 100 (0, 0))) := h9; have HB3 : Hid (Below wr.heap.size wr w3) := (below_alloc _ _).trans (k9.below (fun k hk => by show k ≠ wr.heap.size; omega)); clear h9 k9 s9))
              have HS3 : Hid (w3.heap[SB]? = some (.cells #[.int .u8 sq.k, .int .i64 sq.i, .float .f64 sq.r, .string sq.s] 100 (0, 0))) := (HB3.out.block _ hSlt).trans HS.out
              have HA3 : Hid (w3.heap[AB]? = some (.cells #[.int .u8 V0.k, .int .i64 V0.i, .float .f64 V0.r, .string V0.s] 100 (0, 0))) := (HB3.out.block _ hAlt).trans HA.out
              have HGR3 : Hid (GR w GB LB MB B gv least most (some ⟨nb, 0, none⟩) nc ns w3) := HGR.out.ext hwB HB3.out
              clear HB3 HS HA HGR HX
              go_wp2_with (first | (refine wpList_get (ty := 100) _ rfl rfl rfl Yaed.underlying100 rfl HS3.out size100 ?_) | (refine wpList_get (ty := 100) _ rfl rfl rfl Yaed.underlying100 rfl HNT.out size100 ?_))
              refine (arith_add sq x _).mono ?_
              rintro e w4 ⟨rfl, hb4⟩
              obtain ⟨sn, hsn⟩ : ∃ sn, addV sq x = sn := ⟨_, rfl⟩
              rw [hsn] at HSN ⊢
              have HS4 : Hid (w4.heap[SB]? = some (.cells #[.int .u8 sq.k, .int .i64 sq.i, .float .f64 sq.r, .string sq.s] 100 (0, 0))) := (hb4.block _ (block_lt HS3.out)).trans HS3.out
              have HA4 : Hid (w4.heap[AB]? = some (.cells #[.int .u8 V0.k, .int .i64 V0.i, .float .f64 V0.r, .string V0.s] 100 (0, 0))) := (hb4.block _ (block_lt HA3.out)).trans HA3.out
              have HGR4 : Hid (GR w GB LB MB B gv least most (some ⟨nb, 0, none⟩) nc ns w4) := HGR3.out.ext HGR3.out.bel.size hb4
              clear hsn hb4 HS3 HA3 HGR3 HNT
              unfold V.val
              go_wp2_with (refine wpList_put (ty := 100) (g := SB) rfl rfl rfl rfl size100 (by kernel_rfl) ⟨_, HS4.out, rfl⟩ ?_; intro w5 h9 k9 s9; have HS5 : Hid (w5.heap[SB]? = some (.cells #[.int .u8 sn.k, .int .i64 sn.i, .float .f64 sn.r, .string sn.s] 100 (0, 0))) := h9; have HA5 : Hid (w5.heap[AB]? = some (.cells #[.int .u8 V0.k, .int .i64 V0.i, .float .f64 V0.r, .string V0.s] 100 (0, 0))) := (k9.block AB (by show AB ≠ SB; omega)).trans HA4.out; have HGR5 : Hid (GR w GB LB MB B gv least most (some ⟨nb, 0, none⟩) nc ns w5) := HGR4.out.put (by omega) (by omega) (by omega) (by omega) (by omega) (fun g' hg' => by have := HSO.out g' hg'; omega) k9; clear h9 k9 s9)
              go_roundw
              case rel => exact ⟨q + 1, by omega, by go_num, sn, HSN, HS5, HA5, HGR5⟩
              case measure => simp [intOf]; omega
            · obtain rfl : q = l1 := by omega
              have HSV1 : Hid (sq = sv) := by
                rw [← HSQ.out, ← HSV.out]
                have h1 : ns.take (q + 1) = ns := List.take_of_length_le (by rw [← HLN.out]; exact Nat.le_refl _)
                rw [h1]; exact rfl
              have HS1 : Hid (wr.heap[SB]? = some (.cells #[.int .u8 sv.k, .int .i64 sv.i, .float .f64 sv.r, .string sv.s] 100 (0, 0))) := by rw [← HSV1.out]; exact HS.out
              have HA1 : Hid (wr.heap[AB]? = some (.cells #[.int .u8 V0.k, .int .i64 V0.i, .float .f64 V0.r, .string V0.s] 100 (0, 0))) := HA.out
              have HGR1 : Hid (GR w GB LB MB B gv least most (some ⟨nb, 0, none⟩) nc ns wr) := HGR.out
              clear HS HA HGR HSQ HSV1
              have HAVE : Hid (av = divV (toRealV sv) (q + 1 : Nat)) := by rw [← HAV.out, ← HSV.out, ← HLN.out, if_neg hl0]; exact rfl
              have hSA' := block_lt HA1.out
              go_wp2_with (refine wpList_get (ty := 100) _ rfl rfl rfl Yaed.underlying100 rfl HS1.out size100 ?_)
              refine (toReal_any sv _).mono ?_
              rintro e wE ⟨rfl, hbE⟩
              have HBE : Hid (Below wr.heap.size wr wE) := hbE
              clear hbE
              go_wp2_with fail
              refine (intV_any ((q + 1 : Nat) : Int) _).mono ?_
              rintro e wF ⟨rfl, hbF⟩
              have HBF : Hid (Below wr.heap.size wr wF) := HBE.out.trans (hbF.mono HBE.out.size)
              clear hbF HBE
              go_wp2_with fail
              refine (arith_div (toRealV sv) (intV (q + 1 : Nat)) (toReal_kind sv) ((q + 1 : Nat) : Int) rfl _).mono ?_
              rintro e wG ⟨rfl, hbG⟩
              have HBG : Hid (Below wr.heap.size wr wG) := HBF.out.trans (hbG.mono HBF.out.size)
              clear hbG HBF
              rw [← HAVE.out]
              have HGRG : Hid (GR w GB LB MB B gv least most (some ⟨nb, 0, none⟩) nc ns wG) := HGR1.out.ext HGR1.out.bel.size HBG.out
              have HSG : Hid (wG.heap[SB]? = some (.cells #[.int .u8 sv.k, .int .i64 sv.i, .float .f64 sv.r, .string sv.s] 100 (0, 0))) := (HBG.out.block _ (block_lt HS1.out)).trans HS1.out
              have HAG : Hid (wG.heap[AB]? = some (.cells #[.int .u8 V0.k, .int .i64 V0.i, .float .f64 V0.r, .string V0.s] 100 (0, 0))) := (HBG.out.block _ (block_lt HA1.out)).trans HA1.out
              clear HGR1 HS1 HA1 HBG
              unfold V.val
              go_upto_region 26 with (refine wpList_put (ty := 100) (g := AB) rfl rfl rfl rfl size100 (by kernel_rfl) ⟨_, HAG.out, rfl⟩ ?_; intro wH h9 k9 s9; have HA1 : Hid (wH.heap[AB]? = some (.cells #[.int .u8 av.k, .int .i64 av.i, .float .f64 av.r, .string av.s] 100 (0, 0))) := h9; have HS1 : Hid (wH.heap[SB]? = some (.cells #[.int .u8 sv.k, .int .i64 sv.i, .float .f64 sv.r, .string sv.s] 100 (0, 0))) := (k9.block SB (by show SB ≠ AB; omega)).trans HSG.out; have HGR1 : Hid (GR w GB LB MB B gv least most (some ⟨nb, 0, none⟩) nc ns wH) := HGRG.out.put (by omega) (by omega) (by omega) (by omega) (by omega) (fun g' hg' => by have := HSO.out g' hg'; omega) k9; clear h9 k9 s9)
              have HSX : Hid (∀ W, Below wH.heap.size wH W → W.heap[GB]? = some (.cells #[.int .u8 gv.k, .int .i64 gv.i, .float .f64 gv.r, .string gv.s] 100 (0, 0)) ∧ W.heap[SB]? = some (.cells #[.int .u8 sv.k, .int .i64 sv.i, .float .f64 sv.r, .string sv.s] 100 (0, 0)) ∧ W.heap[AB]? = some (.cells #[.int .u8 av.k, .int .i64 av.i, .float .f64 av.r, .string av.s] 100 (0, 0)) ∧ W.heap[LB]? = some (.cells #[.int .u8 least.k, .int .i64 least.i, .float .f64 least.r, .string least.s] 100 (0, 0)) ∧ W.heap[MB]? = some (.cells #[.int .u8 most.k, .int .i64 most.i, .float .f64 most.r, .string most.s] 100 (0, 0))) := fun W hW => ⟨(hW.block _ (block_lt HGR1.out.hg)).trans HGR1.out.hg, (hW.block _ (block_lt HS1.out)).trans HS1.out, (hW.block _ (block_lt HA1.out)).trans HA1.out, (hW.block _ (block_lt HGR1.out.hl)).trans HGR1.out.hl, (hW.block _ (block_lt HGR1.out.hm)).trans HGR1.out.hm⟩
              have HBWX : Hid (Below w.heap.size w wH) := HGR1.out.bel
              refine wp_region_can (l := [_, _, _, _, _, _, _, _, _, _, _]) [(true, 0), (true, 2), (true, 3), (true, 5), (true, 7), (true, 8), (true, 9), (true, 10), (false, 1), (false, 4), (false, 6)] (fun W => W.heap[GB]? = some (.cells #[.int .u8 gv.k, .int .i64 gv.i, .float .f64 gv.r, .string gv.s] 100 (0, 0)) ∧ W.heap[SB]? = some (.cells #[.int .u8 sv.k, .int .i64 sv.i, .float .f64 sv.r, .string sv.s] 100 (0, 0)) ∧ W.heap[AB]? = some (.cells #[.int .u8 av.k, .int .i64 av.i, .float .f64 av.r, .string av.s] 100 (0, 0)) ∧ W.heap[LB]? = some (.cells #[.int .u8 least.k, .int .i64 least.i, .float .f64 least.r, .string least.s] 100 (0, 0)) ∧ W.heap[MB]? = some (.cells #[.int .u8 most.k, .int .i64 most.i, .float .f64 most.r, .string most.s] 100 (0, 0))) (by kernel_rfl) (by kernel_rfl) (HSX.out _ (Below.refl _ _).drew) ?_
              repeat (((refine wpCan_q (v := ?_) rfl rfl rfl ?_ ?_); rotate_left; (focus (rintro W ⟨q1, q2, q3, q4, q5⟩; have a0 := cell_of_row W _ 0 _ _ _ q1; have a1 := cell_of_row W _ 1 _ _ _ q1; have a2 := cell_of_row W _ 2 _ _ _ q1; have a3 := cell_of_row W _ 3 _ _ _ q1; have b0 := cell_of_row W _ 0 _ _ _ q2; have b1 := cell_of_row W _ 1 _ _ _ q2; have b2 := cell_of_row W _ 2 _ _ _ q2; have b3 := cell_of_row W _ 3 _ _ _ q2; have c0 := cell_of_row W _ 0 _ _ _ q3; have c1 := cell_of_row W _ 1 _ _ _ q3; have c2 := cell_of_row W _ 2 _ _ _ q3; have c3 := cell_of_row W _ 3 _ _ _ q3; have d0 := cell_of_row W _ 0 _ _ _ q4; have d1 := cell_of_row W _ 1 _ _ _ q4; have d2 := cell_of_row W _ 2 _ _ _ q4; have d3 := cell_of_row W _ 3 _ _ _ q4; have e0 := cell_of_row W _ 0 _ _ _ q5; have e1 := cell_of_row W _ 1 _ _ _ q5; have e2 := cell_of_row W _ 2 _ _ _ q5; have e3 := cell_of_row W _ 3 _ _ _ q5; simp only [List.getElem?_toArray, List.getElem?_cons_zero, List.getElem?_cons_succ] at a0 a1 a2 a3 b0 b1 b2 b3 c0 c1 c2 c3 d0 d1 d2 d3 e0 e1 e2 e3; clear q1 q2 q3 q4 q5; go_simp; first | done | exact rfl)); simp only [Act.put, List.setIfInBounds_toArray, List.set_cons_zero, List.set_cons_succ]))
              refine wpCan_e rfl rfl (fun K hK => ?_)
              refine wp_call1 call64 rfl rfl ?_
              refine (norm_any gv _).mono ?_
              rintro e wA ⟨rfl, hb⟩
              have HBA : Hid (Below wH.heap.size wH wA) := below_of_drew hb
              clear hb
              refine ⟨_, rfl, hK _ _ ⟨HSX.out _ HBA.out, ?_⟩⟩
              clear hK K
              simp only [Act.put, List.setIfInBounds_toArray, List.set_cons_zero, List.set_cons_succ]
              refine wpCan_e rfl rfl (fun K hK => ?_)
              refine wp_call1 call70 rfl rfl ?_
              refine (intV_any (g.length : Int) _).mono ?_
              rintro e wB ⟨rfl, hb⟩
              have HBB : Hid (Below wH.heap.size wH wB) := HBA.out.trans (hb.mono HBA.out.size)
              clear hb
              refine ⟨_, rfl, hK _ _ ⟨HSX.out _ HBB.out, ?_⟩⟩
              clear hK K
              simp only [Act.put, List.setIfInBounds_toArray, List.set_cons_zero, List.set_cons_succ]
              refine wpCan_e rfl rfl (fun K hK => ?_)
              refine wp_call1 call70 rfl rfl ?_
              refine (intV_any (cnt : Int) _).mono ?_
              rintro e wC ⟨rfl, hb⟩
              have HBC : Hid (Below wH.heap.size wH wC) := HBB.out.trans (hb.mono HBB.out.size)
              clear hb
              refine ⟨_, rfl, hK _ _ ⟨HSX.out _ HBC.out, ?_⟩⟩
              clear hK K
              simp only [Act.put, List.setIfInBounds_toArray, List.set_cons_zero, List.set_cons_succ]
              refine wpCan_nil ?_
              refine wpList_plain rfl (fun _ hK => wp_bs7 (norm gv) (intV g.length) (intV cnt) sv av least most rfl rfl rfl rfl rfl rfl rfl rfl (hK _ _ ?_))
              have hsC : w.heap.size ≤ wC.heap.size := by have h1 := HBWX.out.size; have h2 := HBC.out.size; omega
              have HBCW : Hid (Below w.heap.size w wC) := HBWX.out.trans (HBC.out.mono HBWX.out.size)
              generalize hwD : World.alloc _ _ = wD
              have HND : Hid (wD.heap[wC.heap.size]? = some (.cells (flatL [norm gv, intV g.length, intV cnt, sv, av, least, most]).toArray 100 (0, 0))) := by rw [← hwD]; exact heap_new rfl
              have HBD : Hid (Below wC.heap.size wC wD) := by rw [← hwD]; exact below_alloc _ _
              clear hwD
              go_wp2_with fail
              go_ret
              refine ⟨wC.heap.size, rfl, hsC, block_lt HND.out, fun t ht j x hx => ?_, HBCW.out.trans (HBD.out.mono hsC)⟩
              rw [HRVT.out t ht] at hx
              have h1 := flatL_get _ t (show t < [norm gv, intV g.length, intV cnt, sv, av, least, most].length from ht) j x hx
              rw [cell_of_row wD _ _ _ _ _ HND.out, List.getElem?_toArray]
              exact h1
end Go.Proofs.YgdaegDoor
