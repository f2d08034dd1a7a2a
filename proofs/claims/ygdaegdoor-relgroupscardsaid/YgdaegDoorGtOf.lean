import Derived.Test.YgdaegDoorRowA
import Derived.Test.YgdaegDoorExecSel
import Derived.Test.YgdaegDoorFilled
namespace Go.Proofs.YgdaegDoor
open Go.RowKit
set_option linter.unusedSimpArgs false
set_option linter.unusedVariables false
theorem normR_getD (rs : List (List V)) (k : Nat) : (normR rs).getD k [] = (rs.getD k []).map norm := by
  unfold normR
  rw [List.getD_eq_getElem?_getD, List.getElem?_map, List.getD_eq_getElem?_getD]
  cases rs[k]? <;> rfl
theorem norm_getD (r : List V) (c : Nat) : (r.map norm).getD c V0 = norm (r.getD c V0) := by
  rw [List.getD_eq_getElem?_getD, List.getElem?_map, List.getD_eq_getElem?_getD]
  cases r[c]? <;> rfl
theorem cellV_normR (rs : List (List V)) (c k : Nat) : cellV (normR rs) c k = cellV rs c k := by
  unfold cellV
  rw [normR_getD, norm_getD, norm_norm]
theorem cellV_fun (rs : List (List V)) (c : Nat) : cellV (normR rs) c = cellV rs c := funext (cellV_normR rs c)
theorem cpR_normR (rs : List (List V)) (g : Nat) : cpR (normR rs) g = cpR rs g := by
  funext i j
  unfold cpR
  rw [cellV_normR, cellV_normR]
theorem selVal_normR (rs : List (List V)) (g c : Nat) : selVal (normR rs) g c = selVal rs g c := by
  funext t p
  unfold selVal
  rw [cellV_fun, cellV_fun]
theorem cmpV_norm (a b : V) : cmpV (norm a) (norm b) = cmpV a b := by
  unfold cmpV
  rw [norm_norm, norm_norm]
theorem arr_row {w : World} {ok : Nat → Prop} {v : Value} {r : List V} (h : Arr w ok v 4 (r.map V.list)) (h0 : 0 < r.length) : ∃ b o cap, v = .slice (some ⟨b, o, none⟩) r.length cap ∧ b < w.heap.size ∧ ∀ c, c < r.length → w.rangeAt b (o + c * 4) (r.getD c V0).list := by
  obtain ⟨a, cap, h1, _, h2⟩ := h
  rw [List.length_map] at h1 h2
  obtain ⟨b, o, rfl, _, hlt, _⟩ := h2 0 h0
  refine ⟨b, o, cap, h1, hlt, fun c hc j x hx => ?_⟩
  obtain ⟨b', o', he, _, _, h4⟩ := h2 c hc
  obtain ⟨rfl, rfl⟩ : b = b' ∧ o = o' := by simpa using he
  have hj : j < 4 := (List.getElem?_eq_some_iff.1 hx).1
  rw [h4 j hj]
  have : (r.map V.list).getD c [] = (r.getD c V0).list := by
    rw [List.getD_eq_getElem?_getD, List.getElem?_map, List.getD_eq_getElem?_getD, List.getElem?_eq_getElem hc]
    rfl
  rw [this, List.getD_eq_getElem?_getD, hx]
  rfl
theorem arr2_rows {w : World} {ok : Nat → Prop} {v : Value} {rs : List (List V)} {n : Nat} (h : Arr2 w ok v 4 (rowsL rs)) (hn : ∀ r ∈ rs, r.length = n) (hn0 : 0 < n) (h0 : 0 < rs.length) : ∃ b o cap, v = .slice (some ⟨b, o, none⟩) rs.length cap ∧ LR w b o n rs := by
  obtain ⟨vs, hl, ha, hi⟩ := h
  have hlr : (rowsL rs).length = rs.length := by simp [rowsL]
  rw [hlr] at hl hi
  obtain ⟨a, cap, h1, _, h2⟩ := ha
  rw [List.length_map, hl] at h1 h2
  obtain ⟨b, o, rfl, _, hlt, _⟩ := h2 0 h0
  refine ⟨b, o, cap, h1, hlt, fun k hk => ?_⟩
  obtain ⟨b', o', he, _, _, h4⟩ := h2 k hk
  obtain ⟨rfl, rfl⟩ : b = b' ∧ o = o' := by simpa using he
  have hr := hi k hk
  have hget : (rowsL rs).getD k [] = (rs.getD k []).map V.list := by
    unfold rowsL
    rw [List.getD_eq_getElem?_getD, List.getElem?_map, List.getD_eq_getElem?_getD, List.getElem?_eq_getElem hk]
    rfl
  rw [hget] at hr
  have hln : (rs.getD k []).length = n := by
    rw [List.getD_eq_getElem?_getD, List.getElem?_eq_getElem hk]
    exact hn _ (List.getElem_mem _)
  obtain ⟨xb, xo, xc, e1, e2, e3⟩ := arr_row hr (by omega)
  have h5 := h4 0 (by omega)
  rw [hln] at e1 e3
  refine ⟨xb, xo, xc, ?_, e2, e3⟩
  have h6 : ((vs.map fun x => [x]).getD k []).getD 0 undef = vs.getD k undef := by
    simp [List.getD_eq_getElem?_getD, show k < vs.length by omega]
  rw [h6, e1] at h5
  simpa using h5
/-- The filled table as the SELECT reads it. -/
theorem gt_of {w : World} {bd bt tc n : Nat} {cs ds rr : Sl} {ok1 ok2 ok3 : Nat → Prop} {rs : List (List V)} (hrs : ∀ r ∈ rs, r.length = n) (hn0 : 0 < n) (h0 : 0 < rs.length) (hdb : DB1 w bd bt tc ⟨tS, cs, nilSl, ds, rr⟩) (hc : Arr w ok1 cs.v 3 ((nsN n).map colL)) (hi : Arr w ok2 ds.v 1 (idsL (idsN 1 rs.length))) (hr : Arr2 w ok3 rr.v 4 (rowsL (normR rs))) :
    ∃ da do_ dc qa qo qc, GT w bt cs.v da do_ dc qa qo qc n (normR rs) := by
  have hnl : (normR rs).length = rs.length := by simp [normR]
  obtain ⟨qa, qo, qc, e1, e2⟩ := arr2_rows (n := n) hr (by intro r hr'; simp [normR] at hr'; obtain ⟨x, hx, rfl⟩ := hr'; rw [List.length_map]; exact hrs x hx) hn0 (by omega)
  have hil : (idsL (idsN 1 rs.length)).length = rs.length := by simp [idsL, idsN]
  obtain ⟨a, cap, d1, _, d2⟩ := hi
  rw [hil] at d1 d2
  obtain ⟨da, do_, rfl, _, hda, _⟩ := d2 0 h0
  obtain ⟨t0, t1, t2, t3, t4, _⟩ := hdb.tfacts
  refine ⟨da, do_, cap, qa, qo, qc, hdb.lt', t1, ?_, ?_, ⟨_, hc⟩, hda, e2.lt, fun k hk => ?_, fun k hk => ?_⟩
  · rw [hnl]
    have : ds.v = .slice ds.a ds.n ds.c := rfl
    rw [← d1, this]; exact t3
  · have : rr.v = .slice rr.a rr.n rr.c := rfl
    rw [← e1, this]; exact t4
  · rw [hnl] at hk
    obtain ⟨b', o', he, _, _, h4⟩ := d2 k hk
    obtain ⟨rfl, rfl⟩ : da = b' ∧ do_ = o' := by simpa using he
    have h5 := h4 0 (by omega)
    have h6 : ((idsL (idsN 1 rs.length)).getD k []).getD 0 undef = .int .i64 ((k + 1 : Nat) : Int) := by
      simp [idsL, idsN, List.getD_eq_getElem?_getD, hk]
      omega
    rw [h6] at h5
    simpa using h5
  · exact e2.rows k hk
end Go.Proofs.YgdaegDoor
