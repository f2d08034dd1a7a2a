import Derived.Test.YgdaegDoorIns
import Derived.Deep.DeepMust
set_option linter.unusedSimpArgs false
set_option linter.unusedVariables false
namespace Go.Proofs.YgdaegDoor
open Go.RowKit
attribute [local go_sem] run_store_float

theorem paramsE_succ {rs : List (List V)} {j : Nat} (h : j < rs.length) : paramsE (rs.take (j + 1)) = paramsE (rs.take j) ++ (rs.getD j []).map paramE := by
  unfold paramsE
  rw [List.take_succ_eq_append_getElem h, List.flatten_append, List.map_append, getD_of_lt _ _ _ h]
  simp

set_option maxHeartbeats 2000000 in
theorem insertStmt_any (n : Nat) (hn4 : n ≤ 4) (rs : List (List V)) (hrs : ∀ r ∈ rs, r.length = n) (hm : rs.length ≤ 32) (hm0 : 1 ≤ rs.length) (rv : Value) (w : World) (ok : Nat → Prop) (hrv : Arr2 w ok rv 4 (rowsL rs)) :
    Calls Yaed.prog 55 #[rv] w fun r w' => ∃ tv av, r = .returned ({ St.mk0 4 tS with tuples := tv, arena := av } : St).val ∧
      Arr2 w' (fun b => w.heap.size ≤ b) tv 1 ((List.range rs.length).map (tupRow n)) ∧ Arr w' (fun b => w.heap.size ≤ b) av 12 ((paramsE rs).map E.list) ∧ Below w.heap.size w w' := by
  obtain ⟨rvs, hrl, hra, hri⟩ := hrv
  have hrl' : rvs.length = rs.length := by rw [hrl]; simp [rowsL]
  obtain ⟨ra, rcap, rfl, hrc, hra⟩ := hra
  have hra1 : ∀ j, j < rs.length → ∃ b o, ra = some ⟨b, o, none⟩ ∧ b < w.heap.size ∧ w.cell? ⟨b, o + j, none⟩ = some (rvs.getD j undef) := by
    intro j hj
    obtain ⟨b, o, h1, _, h2, h3⟩ := hra j (by simpa [hrl'] using hj)
    refine ⟨b, o, h1, h2, ?_⟩
    have := h3 0 (by omega)
    simpa [List.getD_eq_getElem?_getD, hrl', hj] using this
  have hri1 : ∀ j, j < rs.length → ∃ a1 c1, rvs.getD j undef = .slice a1 n c1 ∧ ∀ i, i < n → ∃ b o, a1 = some ⟨b, o, none⟩ ∧ b < w.heap.size ∧
      ∀ f, f < 4 → w.cell? ⟨b, o + i * 4 + f, none⟩ = some ((((rs.getD j []).getD i V0).list).getD f undef) := by
    intro j hj
    obtain ⟨a1, c1, h1, _, h2⟩ := hri j (by simpa [rowsL] using hj)
    have hlj : (rs.getD j []).length = n := hrs _ (by rw [getD_of_lt _ _ _ hj]; exact List.getElem_mem hj)
    have e1 : (rowsL rs).getD j [] = (rs.getD j []).map V.list := by simp [rowsL, List.getD_eq_getElem?_getD, hj]
    rw [e1] at h1 h2
    simp only [List.length_map, hlj] at h1 h2
    refine ⟨a1, c1, h1, fun i hi => ?_⟩
    obtain ⟨b, o, g1, _, g2, g3⟩ := h2 i hi
    refine ⟨b, o, g1, g2, fun f hf => ?_⟩
    rw [g3 f hf]
    have hi' : i < (rs.getD j []).length := by omega
    generalize rs.getD j [] = row at hi'
    congr 2
    simp [List.getD_eq_getElem?_getD, hi']
  have HRA : Hid _ := hra1
  have HRI : Hid _ := hri1
  clear hra hri hrl hra1 hri1 
  simp only [List.length_map, hrl'] at *
  go_enter Yaed.func55, Yaed.ntmps55
  go_wp2_with fail
  generalize hw0 : (w.alloc _).alloc _ = w0
  have HR0 : Hid (∃ z, w0.heap[w.heap.size]? = some (.cells z 38 (0, 0)) ∧ z.size = 19) := ⟨_, by rw [← hw0, heap_old (by simp)]; exact heap_alloc_new w _, rfl⟩
  have HPB : Hid (w0.heap[w.heap.size + 1]? = some (.cells #[nilS] 111 (0, 0))) := by rw [← hw0]; exact heap_new (by simp)
  have HB0 : Hid (Below w.heap.size w w0) := by rw [← hw0]; exact (below_alloc w _).alloc (by simp) _
  have hs0 : w0.heap.size = w.heap.size + 2 := by rw [← hw0]; simp
  clear hw0
  refine (stmt_any _ _ _).mono ?_
  rintro e w1 ⟨rfl, h1⟩
  have HB1 : Hid (Below w0.heap.size w0 w1) := h1
  have hs1 := h1.size
  clear h1
  unfold St.mk0 St.val St.arr
  go_wp2_with (refine wpList_put (ty := 38) rfl rfl rfl rfl size38 (by kernel_rfl) ?_ ?_)
  · exact ⟨_, heap_alloc_new w1 _, rfl⟩
  intro w2 h2 k2 s2
  have HK2 : Hid (Below w1.heap.size w1 w2) := (below_alloc w1 _).trans (k2.below (fun k hk => by omega))
  have HH2 : Hid _ := h2
  have hs2 : w2.heap.size = w1.heap.size + 1 := by simpa using s2
  clear h2 k2 s2
  have HBW : Hid (Below w.heap.size w w2) := HB0.out.trans ((HB1.out.mono (by omega)).trans (HK2.out.mono (by omega)))
  have HR2 : Hid (∃ z, w2.heap[w.heap.size]? = some (.cells z 38 (0, 0)) ∧ z.size = 19) := by
    obtain ⟨z, hz, hsz⟩ := HR0.out
    exact ⟨z, by rw [HK2.out.block _ (by omega), HB1.out.block _ (by omega)]; exact hz, hsz⟩
  have HPB2 : Hid (w2.heap[w.heap.size + 1]? = some (.cells #[nilS] 111 (0, 0))) := by
    show _ = _
    rw [HK2.out.block _ (by omega), HB1.out.block _ (by omega)]; exact HPB.out
  clear HR0 HPB HB0 HB1 HK2
  generalize hps : w1.heap.size = ps at *
  clear hps
  go_wp2_with fail
  go_loopw [13] (fun c wr => ∃ j : Nat, j ≤ rs.length ∧ c = .int .i64 j ∧ Hid (∃ M T tv tvs, InsC (w.heap.size + 1) ps n w2 (paramsE (rs.take j)) M T tv j tvs wr)) (fun c _ => rs.length - (intOf c).toNat)
  case atStart =>
    refine ⟨0, Nat.zero_le _, rfl, (fun k => k < w.heap.size + 1 ∨ k = ps), (fun _ => False), nilS, [], ?_⟩
    refine ⟨⟨nilS, HPB2.out, World.ownsRow_nil _ _ _ _, fun g hg => by simp [Value.ownBlock] at hg, by omega⟩, fun k hk => by omega, fun k hk => .inl hk, .inr rfl, fun k hk => hk.elim,
      fun g hg => by simp [Value.ownBlock] at hg, HH2.out, World.ownsRow_nil _ _ _ _, fun i hi => by omega, Below.refl _ _⟩
  case round =>
    obtain ⟨j, hj, rfl, HI⟩ := hrel
    clear HPB2 HH2
    by_cases hjm : j < rs.length
    · obtain ⟨rb, ro, rfl, hrb, hrcell⟩ := HRA.out j hjm
      obtain ⟨a1, c1, hrow, hvals⟩ := HRI.out j hjm
      have HVALS : Hid _ := hvals
      rw [hrow] at hrcell
      have hrcr : wr.cell? ⟨rb, ro + j, none⟩ = some (.slice a1 n c1) := by
        obtain ⟨M, T, tv, tvs, hI⟩ := HI.out
        rw [(HBW.out.trans (hI.bel.mono (by omega))).cell (p := ⟨rb, _, none⟩) hrb]; exact hrcell
      clear hrcell hrow hvals
      go_wp2_with (refine wpList_mk (n := n) rfl rfl Yaed.underlying30 info35 rfl rfl (by omega) (by omega) ?_)
      intro w3 cs hcs hcsz hb3 hs3 _
      have HI3 : Hid (∃ M T tv tvs, InsC (w.heap.size + 1) ps n w2 (paramsE (rs.take j)) M T tv j tvs w3 ∧ M wr.heap.size ∧ ¬ T wr.heap.size ∧ tv.ownBlock ≠ some wr.heap.size ∧ wr.heap.size ≠ ps ∧ w.heap.size + 1 ≤ wr.heap.size) := by
        obtain ⟨M, T, tv, tvs, hI⟩ := HI.out
        have hl := hI.lt
        refine ⟨_, T, tv, tvs, hI.more hb3 wr.heap.size (Nat.le_refl _) (by omega), .inr rfl, fun hT => ?_, fun e => ?_, by omega, by omega⟩
        · have := hI.old _ (hI.sub _ hT).1; omega
        · have := (hI.row.lt _ e).2; omega
      have HCS : Hid _ := hcs
      generalize htb : wr.heap.size = tb at *
      clear htb hb3 hcs HI hrcr
      go_wp2_with fail
      go_loopw [22] (fun c wi => ∃ i : Nat, i ≤ n ∧ c = .int .i64 i ∧ Hid (∃ M T tv tvs cur, InsC (w.heap.size + 1) ps n w2 (paramsE (rs.take j) ++ ((rs.getD j []).take i).map paramE) M T tv j tvs wi ∧ M tb ∧ ¬ T tb ∧ tv.ownBlock ≠ some tb ∧
        wi.heap[tb]? = some (.cells cur 35 (0, 0)) ∧ cur.size = n ∧ ∀ i', i' < i → cur[i']? = some (Value.int .i16 ((j * n + i' : Nat) : Int)))) (fun c _ => n - (intOf c).toNat)
      case atStart =>
        obtain ⟨M, T, tv, tvs, h1, h2, h3, h4, h5, h6⟩ := HI3.out
        exact ⟨0, Nat.zero_le _, rfl, M, T, tv, tvs, cs, by simpa using h1, h2, h3, h4, HCS.out, by simpa using hcsz, fun i' hi' => by omega⟩
      case round =>
        obtain ⟨i, hi, rfl, HI⟩ := hrel
        by_cases hin : i < n
        · obtain ⟨vb, vo, rfl, hvb, hvc⟩ := HVALS.out i hin
          have hbelw : Below w.heap.size w wr := by
            obtain ⟨M, T, tv, tvs, cur, hI, _⟩ := HI.out
            exact HBW.out.trans (hI.bel.mono (by omega))
          obtain ⟨v, hv⟩ : ∃ v, v = (rs.getD j []).getD i V0 := ⟨_, rfl⟩
          rw [← hv] at hvc
          have hv0 : wr.cell? ⟨vb, vo + i * 4, none⟩ = some (.int .u8 v.k) := by rw [hbelw.cell (p := ⟨vb, _, none⟩) hvb]; exact hvc 0 (by omega)
          have hv1 : wr.cell? ⟨vb, vo + i * 4 + 1, none⟩ = some (.int .i64 v.i) := by rw [hbelw.cell (p := ⟨vb, _, none⟩) hvb]; exact hvc 1 (by omega)
          have hv2 : wr.cell? ⟨vb, vo + i * 4 + 2, none⟩ = some (.float .f64 v.r) := by rw [hbelw.cell (p := ⟨vb, _, none⟩) hvb]; exact hvc 2 (by omega)
          have hv3 : wr.cell? ⟨vb, vo + i * 4 + 3, none⟩ = some (.string v.s) := by rw [hbelw.cell (p := ⟨vb, _, none⟩) hvb]; exact hvc 3 (by omega)
          have HV : Hid (v = (rs.getD j []).getD i V0) := hv
          clear hvc hv hbelw
          go_upto_region 10 with fail
          clear hv0 hv1 hv2 hv3
          go_wp2_with fail
          have hrowl : (rs.getD j []).length = n := hrs _ (by rw [getD_of_lt _ _ _ hjm]; exact List.getElem_mem hjm)
          have hesl : (paramsE (rs.take j) ++ ((rs.getD j []).take i).map paramE).length = j * n + i := by
            have h1 : ∀ (l : List (List V)), (∀ r ∈ l, r.length = n) → l.flatten.length = l.length * n := by
              intro l
              induction l with
              | nil => intro _; simp
              | cons r l ih => intro h; simp [h r (by simp), ih (fun r hr => h r (by simp [hr])), Nat.add_mul]; omega
            have h2 := h1 (rs.take j) (fun r hr => hrs r (List.mem_of_mem_take hr))
            simp only [paramsE, List.length_append, List.length_map, h2, List.length_take]
            rw [hrowl, Nat.min_eq_left (by omega), Nat.min_eq_left (by omega)]
          have hjn : j * n ≤ 32 * 4 := Nat.mul_le_mul (by omega) hn4
          obtain ⟨M, T, tv, tvs, cur, hI, hMt, hTt, htt, hcur, hcz, hcc⟩ := HI.out
          have hIa := hI.ext (below_alloc wr (Obj.cells #[Value.int IntKind.u8 v.k, Value.int IntKind.i64 v.i, Value.float FloatKind.f64 v.r, Value.string v.s] 100))
          refine (p_any (w.heap.size + 1) _ M _ hIa.old (by rw [hesl]; omega) hIa.bat v).mono ?_
          rintro e w4 ⟨rfl, hbat, hkp⟩
          rw [hesl]
          have hI4 := hIa.step hkp hbat
          have hcur4 : w4.heap[tb]? = some (.cells cur 35 (0, 0)) := by rw [hkp.block tb hMt, heap_old (block_lt hcur)]; exact hcur
          obtain ⟨u, hct⟩ : ∃ u, w4.cell? ⟨tb, i, none⟩ = some u := ⟨cur[i]'(by omega), by simp [World.cell?, hcur4]⟩
          have hft : w4.frozen? ⟨tb, i, none⟩ = false := by simp [World.frozen?, hcur4]
          have HX : Hid (InsC (w.heap.size + 1) ps n w2 (paramsE (rs.take j) ++ ((rs.getD j []).take (i + 1)).map paramE) M T tv j tvs w4) := by
            have e1 : (rs.getD j []).take (i + 1) = (rs.getD j []).take i ++ [v] := by
              rw [List.take_succ_eq_append_getElem (by omega), HV.out]
              congr 2
              exact (getD_of_lt _ _ _ (by omega)).symm
            rw [e1, List.map_append, ← List.append_assoc]
            exact hI4
          have HCUR4 : Hid _ := hcur4
          have HCC : Hid _ := hcc
          have HMT : Hid (M tb ∧ ¬ T tb ∧ tv.ownBlock ≠ some tb) := ⟨hMt, hTt, htt⟩
          have htb2 : tb ≠ ps ∧ w.heap.size + 1 ≤ tb := by obtain ⟨_, _, _, _, _, _, _, _, h1, h2⟩ := HI3.out; exact ⟨h1, h2⟩
          clear hI hIa hI4 hcur hcur4 hcc hkp hbat hMt hTt htt HI HI3 hrowl hesl
          go_wp2_with fail
          go_roundw
          case rel =>
            refine ⟨i + 1, by omega, by go_num, M, T, tv, tvs, _, HX.out.set HMT.out.1 HMT.out.2.1 htb2.1 htb2.2 HMT.out.2.2 _, HMT.out.1, HMT.out.2.1, HMT.out.2.2, heap_set HCUR4.out _, by simpa using hcz, fun i' hi' => ?_⟩
            by_cases e : i' = i
            · subst e
              rw [Array.getElem?_setIfInBounds_self_of_lt (by omega)]
              simp
            · rw [Array.getElem?_setIfInBounds_ne (Ne.symm e)]
              exact HCC.out i' (by omega)
          case measure => simp [intOf]; omega
        · have ein : i = n := by omega
          subst ein
          have hrowl : (rs.getD j []).length = i := hrs _ (by rw [getD_of_lt _ _ _ hjm]; exact List.getElem_mem hjm)
          obtain ⟨M, T, tv, tvs, cur, hI, hMt, hTt, htt, hcur, hcz, hcc⟩ := HI.out
          have htb2 : tb ≠ ps ∧ w.heap.size + 1 ≤ tb := by obtain ⟨_, _, _, _, _, _, _, _, h1, h2⟩ := HI3.out; exact ⟨h1, h2⟩
          have hc9 : wr.cell? ⟨ps, 9, none⟩ = some tv := by simp [World.cell?, hI.cell, St.arr]
          have hlt := hI.lt
          have HROW : Hid (wr.ownsRow (ps + 1) 30 1 tv j tvs) := hI.row
          have HC : Hid _ := And.intro hI (And.intro hMt (And.intro hTt (And.intro htt (And.intro hcur (And.intro hcz hcc)))))
          clear hI hcur hcc HI HI3 hMt hTt htt
          go_wp2_with (at_builtin; go_must (refine wpList_app1 (ps + 1) rfl rfl Yaed.underlying32 info30 rfl rfl (HROW.out.alloc _) (by exact heap_new (by simp)) (by rfl) (by intro u hu; simp at hu; subst hu; rfl) (by omega) (by omega) (by omega) (by simp; omega) ?_))
          intro g cap w5 hown5 hgrow hat hlt5
          obtain ⟨hI, hMt, hTt, htt, hcur, hcz, hcc⟩ := HC.out
          have hIa := hI.ext (below_alloc wr (Obj.cells #[Value.slice (some ⟨tb, 0, none⟩) i i] 30))
          have HN : Hid (InsC (w.heap.size + 1) ps i w2 (paramsE (rs.take j) ++ ((rs.getD j []).take i).map paramE) _ _ (.slice (some ⟨g, 0, none⟩) (j + 1) cap) (j + 1) (tvs ++ [.slice (some ⟨tb, 0, none⟩) i i])
              (w5.setCell ⟨ps, 9, none⟩ (.slice (some ⟨g, 0, none⟩) (j + 1) cap))) :=
            hIa.app hMt hTt htt htb2.1 htb2.2 (by omega) (by rw [heap_old (block_lt hcur)]; exact hcur) hcz hcc (by have := HROW.out.1; simpa using this) hown5 hgrow (by simpa using hat) hlt5
          have hps5 : w5.heap[ps]? = some (.cells ({ St.mk0 4 tS with tuples := tv } : St).arr 38 (0, 0)) := by
            rw [hgrow.block ps (by simp; omega) (fun e => by have := (HROW.out.lt ps e.symm).1; omega), heap_old (by omega)]; exact hI.cell
          have hc95 : w5.cell? ⟨ps, 9, none⟩ = some tv := by simp [World.cell?, hps5, St.arr]
          have hf95 : w5.frozen? ⟨ps, 9, none⟩ = false := by simp [World.frozen?, hps5]
          clear hI hIa hMt hTt htt hcur hcc hown5 hgrow hat hps5 HC HROW hc9
          go_wp2_with fail
          go_roundw
          case rel =>
            have e1 : paramsE (rs.take (j + 1)) = paramsE (rs.take j) ++ ((rs.getD j []).take i).map paramE := by
              have e2 : (rs.getD j []).take i = rs.getD j [] := List.take_of_length_le (by omega)
              rw [e2]
              exact paramsE_succ hjm
            have hN := HN.out
            rw [← e1] at hN
            exact ⟨j + 1, by omega, by go_num, _, _, _, _, hN⟩
          case measure => simp [intOf]; omega
    · have ejm : j = rs.length := by omega
      subst ejm
      obtain ⟨M, T, tv, tvs, hI⟩ := HI.out
      obtain ⟨tg, tcap, rfl, htg1, htg2⟩ := hI.row.form (by omega)
      have HIC : Hid (InsC (w.heap.size + 1) ps n w2 (paramsE (rs.take rs.length)) M T _ rs.length tvs wr) := hI
      obtain ⟨av, hpb, hao, hax, hXpb⟩ := hI.bat
      have hlt := hI.lt
      have hcb : wr.cell? ⟨w.heap.size + 1, 0, none⟩ = some av := by simp [World.cell?, hpb]
      have hc18 : wr.cell? ⟨ps, 18, none⟩ = some nilS := by simp [World.cell?, hI.cell, St.arr, St.mk0]
      have hf18 : wr.frozen? ⟨ps, 18, none⟩ = false := by simp [World.frozen?, hI.cell]
      have havs : ∃ aa al ac, av = .slice aa al ac := by
        rcases hao.2 with ⟨h, _⟩ | ⟨g, cap, cur, h, _⟩
        · exact ⟨_, _, _, h⟩
        · exact ⟨_, _, _, h⟩
      obtain ⟨aa, al, ac, rfl⟩ := havs
      have HAO : Hid (wr.ownsRow (w.heap.size + 1 + 1) 150 12 (.slice aa al ac) (paramsE (rs.take rs.length)).length ((paramsE (rs.take rs.length)).flatMap E.list)) := hao
      have HAX : Hid (∀ g, Value.ownBlock (.slice aa al ac) = some g → ¬ M g) := hax
      have HG : Hid ((wr.setCell ⟨ps, 18, none⟩ (.slice aa al ac)).heap[ps]? = some (.cells ({ St.mk0 4 tS with tuples := .slice (some ⟨tg, 0, none⟩) rs.length tcap, arena := .slice aa al ac } : St).arr 38 (0, 0))) :=
        (heap_set hI.cell _).trans (by kernel_rfl)
      clear hI hpb hao hax HI
      unfold St.mk0 St.arr at HG
      go_wp2_with (first | (refine wpList_get (ty := 38) _ rfl rfl rfl Yaed.underlying38 rfl HG.out size38 ?_) | (refine wpList_put (ty := 38) rfl rfl rfl rfl size38 (by kernel_rfl) ?_ ?_))
      · obtain ⟨z, hz, hsz⟩ := HR2.out
        refine ⟨z, ?_, hsz⟩
        rw [heap_set_ne (by omega), HIC.out.bel.block _ (by omega)]
        exact hz
      intro w6 h6 k6 s6
      go_wp2_with fail
      have hk6 : Keep (fun k => k ≠ ps ∧ k ≠ w.heap.size) wr w6 := (Keep.refl.setCell (fun hh => hh.1 rfl) _).trans (k6.mono (fun k hk => hk.2))
      refine bodyPost_ret (results_cell_row rfl _ _ _ _ _ _ _ rfl h6 Yaed.underlying38 rfl size38) rfl ⟨_, _, rfl, ⟨tvs, ?_, ?_, ?_⟩, ?_, ?_⟩
      · have := HIC.out.row.1; simpa using this
      · have hr := HIC.out.row
        have hl : tvs.length = rs.length := by have := hr.1; simpa using this
        have hA := Arr.of_owns (rows := tvs.map fun x => [x]) (v := .slice (some ⟨tg, 0, none⟩) rs.length tcap) (w := wr) (base := ps + 1) (e := 30) (k := 1) (by simpa [hl, List.flatten_eq_flatMap, List.flatMap_map] using hr)
          (by intro r hr; simp at hr; obtain ⟨x, _, rfl⟩ := hr; rfl)
        exact (hA.keep hk6 (fun b hb => by have e : tg = b := by simpa [Value.ownBlock] using hb
                                           omega)).mono (fun b hb => by have e : tg = b := by simpa [Value.ownBlock] using hb
                                                                        omega)
      · intro i hi
        have hi' : i < rs.length := by simpa using hi
        have hA := HIC.out.arr i hi'
        have e1 : ((List.range rs.length).map (tupRow n)).getD i [] = tupRow n i := by simp [List.getD_eq_getElem?_getD, hi']
        rw [e1]
        exact (hA.keep hk6 (fun b hb => by have := HIC.out.sub b hb; omega)).mono (fun b hb => by have := HIC.out.sub b hb; omega)
      · have hr := HAO.out
        rw [List.take_length] at hr
        have hA := Arr.of_owns (rows := (paramsE rs).map E.list) (v := .slice aa al ac) (w := wr) (base := w.heap.size + 1 + 1) (e := 150) (k := 12) (by simpa [List.flatten_eq_flatMap, List.flatMap_map] using hr)
          (by intro r hr; simp at hr; obtain ⟨x, _, rfl⟩ := hr; rfl)
        exact (hA.keep hk6 (fun b hb => by have h1 := (hr.lt b hb).1
                                           have h2 : b ≠ ps := fun e => HAX.out b hb (e ▸ HIC.out.mps)
                                           omega)).mono (fun b hb => by have h1 := (hr.lt b hb).1
                                                                        omega)
      · exact (HBW.out.trans (HIC.out.bel.mono (by omega))).trans (hk6.below (fun k hk => by omega))
end Go.Proofs.YgdaegDoor
