import Derived.Test.YgdaegDoorNodeC
import Derived.Test.YgdaegDoorLaws
namespace Go.Proofs.YgdaegDoor
open Go.RowKit
set_option linter.unusedSimpArgs false
set_option linter.unusedVariables false
/-- The table as the SELECT reads it. -/
structure GT (w : World) (bt : Nat) (cv : Value) (da do_ dc qa qo qc n : Nat) (rs : List (List V)) : Prop where
  lt : bt < w.heap.size
  c1 : w.cell? ⟨bt, 1, none⟩ = some cv
  c3 : w.cell? ⟨bt, 3, none⟩ = some (.slice (some ⟨da, do_, none⟩) rs.length dc)
  c4 : w.cell? ⟨bt, 4, none⟩ = some (.slice (some ⟨qa, qo, none⟩) rs.length qc)
  cols : ∃ ok, Arr w ok cv 3 ((nsN n).map colL)
  dalt : da < w.heap.size
  qalt : qa < w.heap.size
  ids : ∀ k, k < rs.length → w.cell? ⟨da, do_ + k, none⟩ = some (.int .i64 ((k + 1 : Nat) : Int))
  rows : ∀ k, k < rs.length → ∃ rb ro rc, w.cell? ⟨qa, qo + k, none⟩ = some (.slice (some ⟨rb, ro, none⟩) n rc) ∧ rb < w.heap.size ∧ ∀ c, c < n → w.rangeAt rb (ro + c * 4) ((rs.getD k []).getD c V0).list
theorem GT.ext {w w' : World} {bt : Nat} {cv : Value} {da do_ dc qa qo qc n : Nat} {rs : List (List V)} (h : GT w bt cv da do_ dc qa qo qc n rs) (hb : Below w.heap.size w w') : GT w' bt cv da do_ dc qa qo qc n rs := by
  have hs := hb.size
  refine ⟨Nat.lt_of_lt_of_le h.lt hs, ?_, ?_, ?_, ?_, Nat.lt_of_lt_of_le h.dalt hs, Nat.lt_of_lt_of_le h.qalt hs, fun k hk => ?_, fun k hk => ?_⟩
  · rw [hb.cell (p := ⟨bt, _, none⟩) h.lt]; exact h.c1
  · rw [hb.cell (p := ⟨bt, _, none⟩) h.lt]; exact h.c3
  · rw [hb.cell (p := ⟨bt, _, none⟩) h.lt]; exact h.c4
  · obtain ⟨ok, ha⟩ := h.cols; exact ⟨ok, ha.ext hb⟩
  · rw [hb.cell (p := ⟨da, _, none⟩) h.dalt]; exact h.ids k hk
  · obtain ⟨rb, ro, rc, h1, h2, h3⟩ := h.rows k hk
    refine ⟨rb, ro, rc, ?_, Nat.lt_of_lt_of_le h2 hs, fun c hc => range_ext (h3 c hc) hb h2⟩
    rw [hb.cell (p := ⟨qa, _, none⟩) h.qalt]; exact h1
/-- The value of column c in row k. -/
def cellV (rs : List (List V)) (c k : Nat) : V := norm ((rs.getD k []).getD c V0)
/-- Eval of a column over a row. -/
theorem eval_col (n c : Nat) (hc : c < n) (h4 : n ≤ 4) (b o an acap x : Nat) (hx : x < an) (hx3 : x < 30000) (cv : Value) (v : V) (rb ro rc : Nat) (id : Int) (w : World) (hN : NodeAt w b (o + x * 12) (colE (cname c))) (hcv : ∃ ok, Arr w ok cv 3 ((nsN n).map colL)) (hrb : rb < w.heap.size) (hv : w.rangeAt rb (ro + c * 4) v.list) :
    Calls Yaed.prog 39 #[.slice (some ⟨b, o, none⟩) an acap, .int .i16 x, cv, .int .i64 id, .slice (some ⟨rb, ro, none⟩) n rc] w fun r w' => r = .returned (norm v).val ∧ Below w.heap.size w w' :=
  eval_leaf (colE (cname c)) rfl (norm v) b o an acap x hx hx3 cv _ id w hN fun vsv w1 h1 =>
    node_col (colE (cname c)) V0 V0 v b o an acap x hx vsv cv x id c rb ro n rc hc (by omega) w1 (hN.ext h1) (fun w2 _ => arg_none vsv x x w2) (fun w2 _ => arg_none vsv x x w2) rfl (cname_rowid c (by omega))
      (fun w2 h2 => by
        obtain ⟨ok, ha⟩ := hcv
        exact colIndex_any (nsN n) (cname c) c (by rw [nsN_len]; exact hc) (by rw [nsN_len]; exact h4) (nsN_get hc) (fun j hj => by rw [nsN_get (by omega)]; exact cname_ne c j (by omega) hj) cv w2 ok ((ha.ext h1).ext h2)) (Nat.lt_of_lt_of_le hrb h1.size) (range_ext hv h1 hrb)
end Go.Proofs.YgdaegDoor
