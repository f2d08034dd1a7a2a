import Derived.Test.YgdaegDoorVals
import Derived.Handy
set_option linter.unusedSimpArgs false
set_option linter.unusedVariables false
namespace Go.Proofs.YgdaegDoor
open Go.RowKit

def byt (s : ByteArray) (k : Nat) : Nat := if h : k < s.size then s[k].toNat else 0
def clsN (c : Nat) : Nat :=
  if 194 ≤ c ∧ c ≤ 223 then 1 else if 224 ≤ c ∧ c ≤ 239 then 2 else if 240 ≤ c ∧ c ≤ 244 then 3 else 0
def clsLo (c : Nat) : Nat := if c = 224 then 160 else if c = 240 then 144 else 128
def clsHi (c : Nat) : Nat := if c = 237 then 159 else if c = 244 then 143 else 191
def contB (s : ByteArray) (i n : Nat) : Bool := decide (∀ j, j < n + 1 → 2 ≤ j → 128 ≤ byt s (i + j) ∧ byt s (i + j) ≤ 191)
def vuF : Nat → ByteArray → Nat → Bool
  | 0, _, _ => true
  | f + 1, s, i =>
    if s.size ≤ i then true else if byt s i < 128 then vuF f s (i + 1) else
    if clsN (byt s i) = 0 then false else if s.size ≤ i + clsN (byt s i) then false else
    if byt s (i + 1) < clsLo (byt s i) ∨ clsHi (byt s i) < byt s (i + 1) then false else
    if contB s i (clsN (byt s i)) then vuF f s (i + clsN (byt s i) + 1) else false
def vuB (s : ByteArray) : Bool := vuF (s.size + 1) s 0

section
variable {s : ByteArray} {f k : Nat}
theorem byt_eq (h : k < s.size) : byt s k = s[k].toNat := by simp [byt, h]
theorem vu_end (h : ¬ k < s.size) : vuF (f + 1) s k = true := by simp [vuF]; omega
theorem vu_ascii (h : k < s.size) (h1 : byt s k < 128) : vuF (f + 1) s k = vuF f s (k + 1) := by
  have : ¬ s.size ≤ k := by omega
  simp [vuF, this, h1]
theorem vu_bad (h : k < s.size) (h1 : ¬ byt s k < 128) (h2 : clsN (byt s k) = 0) : vuF (f + 1) s k = false := by
  have : ¬ s.size ≤ k := by omega
  simp [vuF, this, h1, h2]
theorem vu_short (n : Nat) (h : k < s.size) (h1 : ¬ byt s k < 128) (h2 : clsN (byt s k) = n) (h3 : s.size ≤ k + n) : vuF (f + 1) s k = false := by
  have : ¬ s.size ≤ k := by omega
  simp [vuF, this, h1, h2, h3]
theorem vu_second (n lo hi : Nat) (h : k < s.size) (h1 : ¬ byt s k < 128) (h2 : clsN (byt s k) = n) (h2' : clsLo (byt s k) = lo) (h2'' : clsHi (byt s k) = hi)
    (h4 : byt s (k + 1) < lo ∨ hi < byt s (k + 1)) : vuF (f + 1) s k = false := by
  have : ¬ s.size ≤ k := by omega
  simp [vuF, this, h1, h2', h2'', h4]
theorem vu_cont (n lo hi : Nat) (h : k < s.size) (h1 : ¬ byt s k < 128) (h2 : clsN (byt s k) = n) (h2' : clsLo (byt s k) = lo) (h2'' : clsHi (byt s k) = hi) (hn : n ≠ 0)
    (h3 : ¬ s.size ≤ k + n) (h4 : ¬ byt s (k + 1) < lo) (h4' : ¬ hi < byt s (k + 1)) : vuF (f + 1) s k = if contB s k n then vuF f s (k + n + 1) else false := by
  have : ¬ s.size ≤ k := by omega
  simp [vuF, this, h1, h2, h2', h2'', h3, h4, h4', hn]
theorem cont_bad {n j : Nat} (h2 : 2 ≤ j) (hj : j ≤ n) (h : byt s (k + j) < 128 ∨ 191 < byt s (k + j)) : contB s k n = false := by
  simp only [contB, decide_eq_false_iff_not]
  intro hh
  have := hh j (by omega) h2
  omega
theorem cont_ok {n : Nat} (h : ∀ j, 2 ≤ j → j < n + 1 → 128 ≤ byt s (k + j) ∧ byt s (k + j) ≤ 191) : contB s k n = true := by
  simp only [contB, decide_eq_true_eq]
  exact fun j h1 h2 => h j h2 h1
end
theorem ret_bool {a b : Bool} (h : a = b) : Ending.returned (.bool a) = .returned (.bool b) := by rw [h]

set_option maxHeartbeats 4000000 in
set_option maxRecDepth 10000 in
theorem vu_any (s : ByteArray) (w : World) (hs : s.size ≤ 8) :
    Calls Yaed.prog 126 #[.string s] w fun e w' => e = .returned (.bool (vuB s)) ∧ w' = w := by
  generalize hvu : vuB s = R
  have HR : Hid (vuB s = R) := hvu
  clear hvu
  go_enter Yaed.func126, Yaed.ntmps126
  go_wp2
  go_loop [3] (fun i => ∃ k f : Nat, k ≤ s.size ∧ s.size < k + f ∧ i = .int .i64 k ∧ Hid (vuF f s k = R)) (fun i => s.size - (intOf i).toNat)
  case atStart => exact ⟨0, s.size + 1, Nat.zero_le _, by omega, rfl, HR⟩
  case round =>
    obtain ⟨k, f', hk, hf, rfl, HF⟩ := hrel
    clear HR
    obtain ⟨f, rfl⟩ : ∃ f, f' = f + 1 := ⟨f' - 1, by omega⟩
    by_cases hlt : k < s.size
    · have hb := byt_eq hlt
      have HB : Hid (byt s k = s[k].toNat) := hb
      clear hb
      by_cases h1 : (s[k].toNat : Int) < 128
      · have HF' : Hid (vuF f s (k + 1) = R) := by rw [← vu_ascii hlt (by rw [HB.out]; omega)]; exact HF
        clear HF
        go_wp2
        exact ⟨⟨k + 1, f, by omega, by omega, by go_num, HF'⟩, by simp [intOf]; omega⟩
      by_cases h2 : 194 ≤ (s[k].toNat : Int) ∧ (s[k].toNat : Int) ≤ 223
      · have HN : Hid (clsN (byt s k) = 1) := by rw [HB.out]; show clsN _ = _; unfold clsN; split <;> (try split) <;> (try split) <;> omega
        have HL : Hid (clsLo (byt s k) = 128) := by rw [HB.out]; show clsLo _ = _; unfold clsLo; split <;> (try split) <;> omega
        have HH : Hid (clsHi (byt s k) = 191) := by rw [HB.out]; show clsHi _ = _; unfold clsHi; split <;> (try split) <;> omega
        have H1 : Hid (¬ byt s k < 128) := by show ¬ _; rw [HB.out]; omega
        clear h1
        obtain ⟨h2, h3⟩ := h2
        by_cases h4 : k + 1 < s.size
        · have h5 : ¬ (s.size : Int) ≤ k + 1 := by omega
          have hlt1 : k + 1 < s.size := by omega
          have HB1 : Hid (byt s (k + 1) = s[k + 1].toNat) := byt_eq hlt1
          by_cases g1 : (s[k + 1].toNat : Int) < 128
          · have HR : Hid (R = false) := by rw [← HF.out]; exact vu_second 1 128 191 hlt H1.out HN.out HL.out HH.out (by rw [HB1.out]; omega)
            go_wp2
            all_goals (go_ret; exact ⟨ret_bool HR.out.symm, rfl⟩)
          by_cases g2 : 191 < (s[k + 1].toNat : Int)
          · have HR : Hid (R = false) := by rw [← HF.out]; exact vu_second 1 128 191 hlt H1.out HN.out HL.out HH.out (by rw [HB1.out]; omega)
            go_wp2
            all_goals (go_ret; exact ⟨ret_bool HR.out.symm, rfl⟩)
          have HF' : Hid ((if contB s k 1 then vuF f s (k + 1 + 1) else false) = R) := by
            rw [← HF.out]; exact (vu_cont 1 128 191 hlt H1.out HN.out HL.out HH.out (by omega) (by omega) (by rw [HB1.out]; omega) (by rw [HB1.out]; omega)).symm
          clear HF
          go_wp2
          go_loop [8] (fun jv => ∃ j : Nat, 2 ≤ j ∧ j ≤ 2 ∧ jv = .int .i64 j ∧ Hid (∀ t, 2 ≤ t → t < j → 128 ≤ byt s (k + t) ∧ byt s (k + t) ≤ 191)) (fun jv => 5 - (intOf jv).toNat)
          case atStart => exact ⟨2, by omega, by omega, rfl, fun t h1 h2 => by omega⟩
          case round =>
            obtain ⟨j, hj2, hjn, rfl, HT⟩ := hrel
            by_cases hjl : (j : Int) ≤ 1
            · exact absurd hjl (by omega)
            · have e : j = 2 := by omega
              have HC : Hid (vuF f s (k + 1 + 1) = R) := by rw [← HF'.out, cont_ok (n := 1) (fun t h1 h2 => HT.out t h1 (by omega))]; rfl
              go_wp2
              exact ⟨⟨k + 1 + 1, f, by omega, by omega, by go_num, HC⟩, by simp [intOf]; omega⟩
        · have HR : Hid (R = false) := by rw [← HF.out]; exact vu_short 1 hlt H1.out HN.out (by omega)
          have h5 : (s.size : Int) ≤ k + 1 := by omega
          go_wp2
          all_goals (go_ret; exact ⟨ret_bool HR.out.symm, rfl⟩)
      by_cases h2 : (s[k].toNat : Int) = 224
      · have HN : Hid (clsN (byt s k) = 2) := by rw [HB.out]; show clsN _ = _; unfold clsN; split <;> (try split) <;> (try split) <;> omega
        have HL : Hid (clsLo (byt s k) = 160) := by rw [HB.out]; show clsLo _ = _; unfold clsLo; split <;> (try split) <;> omega
        have HH : Hid (clsHi (byt s k) = 191) := by rw [HB.out]; show clsHi _ = _; unfold clsHi; split <;> (try split) <;> omega
        have H1 : Hid (¬ byt s k < 128) := by show ¬ _; rw [HB.out]; omega
        clear h1
        by_cases h4 : k + 2 < s.size
        · have h5 : ¬ (s.size : Int) ≤ k + 2 := by omega
          have hlt1 : k + 1 < s.size := by omega
          have HB1 : Hid (byt s (k + 1) = s[k + 1].toNat) := byt_eq hlt1
          by_cases g1 : (s[k + 1].toNat : Int) < 160
          · have HR : Hid (R = false) := by rw [← HF.out]; exact vu_second 2 160 191 hlt H1.out HN.out HL.out HH.out (by rw [HB1.out]; omega)
            go_wp2
            all_goals (go_ret; exact ⟨ret_bool HR.out.symm, rfl⟩)
          by_cases g2 : 191 < (s[k + 1].toNat : Int)
          · have HR : Hid (R = false) := by rw [← HF.out]; exact vu_second 2 160 191 hlt H1.out HN.out HL.out HH.out (by rw [HB1.out]; omega)
            go_wp2
            all_goals (go_ret; exact ⟨ret_bool HR.out.symm, rfl⟩)
          have HF' : Hid ((if contB s k 2 then vuF f s (k + 2 + 1) else false) = R) := by
            rw [← HF.out]; exact (vu_cont 2 160 191 hlt H1.out HN.out HL.out HH.out (by omega) (by omega) (by rw [HB1.out]; omega) (by rw [HB1.out]; omega)).symm
          clear HF
          go_wp2
          go_loop [8] (fun jv => ∃ j : Nat, 2 ≤ j ∧ j ≤ 3 ∧ jv = .int .i64 j ∧ Hid (∀ t, 2 ≤ t → t < j → 128 ≤ byt s (k + t) ∧ byt s (k + t) ≤ 191)) (fun jv => 5 - (intOf jv).toNat)
          case atStart => exact ⟨2, by omega, by omega, rfl, fun t h1 h2 => by omega⟩
          case round =>
            obtain ⟨j, hj2, hjn, rfl, HT⟩ := hrel
            by_cases hjl : (j : Int) ≤ 2
            · have hltj : k + j < s.size := by omega
              have HBj : Hid (byt s (k + j) = s[k + j].toNat) := byt_eq hltj
              by_cases q1 : (s[k + j].toNat : Int) < 128
              · have HR : Hid (R = false) := by rw [← HF'.out, cont_bad hj2 (by omega) (Or.inl (by rw [HBj.out]; omega))]; rfl
                go_wp2
                all_goals (go_ret; exact ⟨ret_bool HR.out.symm, rfl⟩)
              by_cases q2 : 191 < (s[k + j].toNat : Int)
              · have HR : Hid (R = false) := by rw [← HF'.out, cont_bad hj2 (by omega) (Or.inr (by rw [HBj.out]; omega))]; rfl
                go_wp2
                all_goals (go_ret; exact ⟨ret_bool HR.out.symm, rfl⟩)
              have HT' : Hid (∀ t, 2 ≤ t → t < j + 1 → 128 ≤ byt s (k + t) ∧ byt s (k + t) ≤ 191) := by
                intro t h1 h2; by_cases e : t = j
                · rw [e, HBj.out]; omega
                · exact HT.out t h1 (by omega)
              go_wp2
              exact ⟨⟨j + 1, by omega, by omega, by go_num, HT'⟩, by simp [intOf]; omega⟩
            · have e : j = 3 := by omega
              have HC : Hid (vuF f s (k + 2 + 1) = R) := by rw [← HF'.out, cont_ok (n := 2) (fun t h1 h2 => HT.out t h1 (by omega))]; rfl
              go_wp2
              exact ⟨⟨k + 2 + 1, f, by omega, by omega, by go_num, HC⟩, by simp [intOf]; omega⟩
        · have HR : Hid (R = false) := by rw [← HF.out]; exact vu_short 2 hlt H1.out HN.out (by omega)
          have h5 : (s.size : Int) ≤ k + 2 := by omega
          go_wp2
          all_goals (go_ret; exact ⟨ret_bool HR.out.symm, rfl⟩)
      by_cases h2 : 225 ≤ (s[k].toNat : Int) ∧ (s[k].toNat : Int) ≤ 236
      · have HN : Hid (clsN (byt s k) = 2) := by rw [HB.out]; show clsN _ = _; unfold clsN; split <;> (try split) <;> (try split) <;> omega
        have HL : Hid (clsLo (byt s k) = 128) := by rw [HB.out]; show clsLo _ = _; unfold clsLo; split <;> (try split) <;> omega
        have HH : Hid (clsHi (byt s k) = 191) := by rw [HB.out]; show clsHi _ = _; unfold clsHi; split <;> (try split) <;> omega
        have H1 : Hid (¬ byt s k < 128) := by show ¬ _; rw [HB.out]; omega
        clear h1
        obtain ⟨h2, h3⟩ := h2
        by_cases h4 : k + 2 < s.size
        · have h5 : ¬ (s.size : Int) ≤ k + 2 := by omega
          have hlt1 : k + 1 < s.size := by omega
          have HB1 : Hid (byt s (k + 1) = s[k + 1].toNat) := byt_eq hlt1
          by_cases g1 : (s[k + 1].toNat : Int) < 128
          · have HR : Hid (R = false) := by rw [← HF.out]; exact vu_second 2 128 191 hlt H1.out HN.out HL.out HH.out (by rw [HB1.out]; omega)
            go_wp2
            all_goals (go_ret; exact ⟨ret_bool HR.out.symm, rfl⟩)
          by_cases g2 : 191 < (s[k + 1].toNat : Int)
          · have HR : Hid (R = false) := by rw [← HF.out]; exact vu_second 2 128 191 hlt H1.out HN.out HL.out HH.out (by rw [HB1.out]; omega)
            go_wp2
            all_goals (go_ret; exact ⟨ret_bool HR.out.symm, rfl⟩)
          have HF' : Hid ((if contB s k 2 then vuF f s (k + 2 + 1) else false) = R) := by
            rw [← HF.out]; exact (vu_cont 2 128 191 hlt H1.out HN.out HL.out HH.out (by omega) (by omega) (by rw [HB1.out]; omega) (by rw [HB1.out]; omega)).symm
          clear HF
          go_wp2
          go_loop [8] (fun jv => ∃ j : Nat, 2 ≤ j ∧ j ≤ 3 ∧ jv = .int .i64 j ∧ Hid (∀ t, 2 ≤ t → t < j → 128 ≤ byt s (k + t) ∧ byt s (k + t) ≤ 191)) (fun jv => 5 - (intOf jv).toNat)
          case atStart => exact ⟨2, by omega, by omega, rfl, fun t h1 h2 => by omega⟩
          case round =>
            obtain ⟨j, hj2, hjn, rfl, HT⟩ := hrel
            by_cases hjl : (j : Int) ≤ 2
            · have hltj : k + j < s.size := by omega
              have HBj : Hid (byt s (k + j) = s[k + j].toNat) := byt_eq hltj
              by_cases q1 : (s[k + j].toNat : Int) < 128
              · have HR : Hid (R = false) := by rw [← HF'.out, cont_bad hj2 (by omega) (Or.inl (by rw [HBj.out]; omega))]; rfl
                go_wp2
                all_goals (go_ret; exact ⟨ret_bool HR.out.symm, rfl⟩)
              by_cases q2 : 191 < (s[k + j].toNat : Int)
              · have HR : Hid (R = false) := by rw [← HF'.out, cont_bad hj2 (by omega) (Or.inr (by rw [HBj.out]; omega))]; rfl
                go_wp2
                all_goals (go_ret; exact ⟨ret_bool HR.out.symm, rfl⟩)
              have HT' : Hid (∀ t, 2 ≤ t → t < j + 1 → 128 ≤ byt s (k + t) ∧ byt s (k + t) ≤ 191) := by
                intro t h1 h2; by_cases e : t = j
                · rw [e, HBj.out]; omega
                · exact HT.out t h1 (by omega)
              go_wp2
              exact ⟨⟨j + 1, by omega, by omega, by go_num, HT'⟩, by simp [intOf]; omega⟩
            · have e : j = 3 := by omega
              have HC : Hid (vuF f s (k + 2 + 1) = R) := by rw [← HF'.out, cont_ok (n := 2) (fun t h1 h2 => HT.out t h1 (by omega))]; rfl
              go_wp2
              exact ⟨⟨k + 2 + 1, f, by omega, by omega, by go_num, HC⟩, by simp [intOf]; omega⟩
        · have HR : Hid (R = false) := by rw [← HF.out]; exact vu_short 2 hlt H1.out HN.out (by omega)
          have h5 : (s.size : Int) ≤ k + 2 := by omega
          go_wp2
          all_goals (go_ret; exact ⟨ret_bool HR.out.symm, rfl⟩)
      by_cases h2 : (s[k].toNat : Int) = 238
      · have HN : Hid (clsN (byt s k) = 2) := by rw [HB.out]; show clsN _ = _; unfold clsN; split <;> (try split) <;> (try split) <;> omega
        have HL : Hid (clsLo (byt s k) = 128) := by rw [HB.out]; show clsLo _ = _; unfold clsLo; split <;> (try split) <;> omega
        have HH : Hid (clsHi (byt s k) = 191) := by rw [HB.out]; show clsHi _ = _; unfold clsHi; split <;> (try split) <;> omega
        have H1 : Hid (¬ byt s k < 128) := by show ¬ _; rw [HB.out]; omega
        clear h1
        by_cases h4 : k + 2 < s.size
        · have h5 : ¬ (s.size : Int) ≤ k + 2 := by omega
          have hlt1 : k + 1 < s.size := by omega
          have HB1 : Hid (byt s (k + 1) = s[k + 1].toNat) := byt_eq hlt1
          by_cases g1 : (s[k + 1].toNat : Int) < 128
          · have HR : Hid (R = false) := by rw [← HF.out]; exact vu_second 2 128 191 hlt H1.out HN.out HL.out HH.out (by rw [HB1.out]; omega)
            go_wp2
            all_goals (go_ret; exact ⟨ret_bool HR.out.symm, rfl⟩)
          by_cases g2 : 191 < (s[k + 1].toNat : Int)
          · have HR : Hid (R = false) := by rw [← HF.out]; exact vu_second 2 128 191 hlt H1.out HN.out HL.out HH.out (by rw [HB1.out]; omega)
            go_wp2
            all_goals (go_ret; exact ⟨ret_bool HR.out.symm, rfl⟩)
          have HF' : Hid ((if contB s k 2 then vuF f s (k + 2 + 1) else false) = R) := by
            rw [← HF.out]; exact (vu_cont 2 128 191 hlt H1.out HN.out HL.out HH.out (by omega) (by omega) (by rw [HB1.out]; omega) (by rw [HB1.out]; omega)).symm
          clear HF
          go_wp2
          go_loop [8] (fun jv => ∃ j : Nat, 2 ≤ j ∧ j ≤ 3 ∧ jv = .int .i64 j ∧ Hid (∀ t, 2 ≤ t → t < j → 128 ≤ byt s (k + t) ∧ byt s (k + t) ≤ 191)) (fun jv => 5 - (intOf jv).toNat)
          case atStart => exact ⟨2, by omega, by omega, rfl, fun t h1 h2 => by omega⟩
          case round =>
            obtain ⟨j, hj2, hjn, rfl, HT⟩ := hrel
            by_cases hjl : (j : Int) ≤ 2
            · have hltj : k + j < s.size := by omega
              have HBj : Hid (byt s (k + j) = s[k + j].toNat) := byt_eq hltj
              by_cases q1 : (s[k + j].toNat : Int) < 128
              · have HR : Hid (R = false) := by rw [← HF'.out, cont_bad hj2 (by omega) (Or.inl (by rw [HBj.out]; omega))]; rfl
                go_wp2
                all_goals (go_ret; exact ⟨ret_bool HR.out.symm, rfl⟩)
              by_cases q2 : 191 < (s[k + j].toNat : Int)
              · have HR : Hid (R = false) := by rw [← HF'.out, cont_bad hj2 (by omega) (Or.inr (by rw [HBj.out]; omega))]; rfl
                go_wp2
                all_goals (go_ret; exact ⟨ret_bool HR.out.symm, rfl⟩)
              have HT' : Hid (∀ t, 2 ≤ t → t < j + 1 → 128 ≤ byt s (k + t) ∧ byt s (k + t) ≤ 191) := by
                intro t h1 h2; by_cases e : t = j
                · rw [e, HBj.out]; omega
                · exact HT.out t h1 (by omega)
              go_wp2
              exact ⟨⟨j + 1, by omega, by omega, by go_num, HT'⟩, by simp [intOf]; omega⟩
            · have e : j = 3 := by omega
              have HC : Hid (vuF f s (k + 2 + 1) = R) := by rw [← HF'.out, cont_ok (n := 2) (fun t h1 h2 => HT.out t h1 (by omega))]; rfl
              go_wp2
              exact ⟨⟨k + 2 + 1, f, by omega, by omega, by go_num, HC⟩, by simp [intOf]; omega⟩
        · have HR : Hid (R = false) := by rw [← HF.out]; exact vu_short 2 hlt H1.out HN.out (by omega)
          have h5 : (s.size : Int) ≤ k + 2 := by omega
          go_wp2
          all_goals (go_ret; exact ⟨ret_bool HR.out.symm, rfl⟩)
      by_cases h2 : (s[k].toNat : Int) = 239
      · have HN : Hid (clsN (byt s k) = 2) := by rw [HB.out]; show clsN _ = _; unfold clsN; split <;> (try split) <;> (try split) <;> omega
        have HL : Hid (clsLo (byt s k) = 128) := by rw [HB.out]; show clsLo _ = _; unfold clsLo; split <;> (try split) <;> omega
        have HH : Hid (clsHi (byt s k) = 191) := by rw [HB.out]; show clsHi _ = _; unfold clsHi; split <;> (try split) <;> omega
        have H1 : Hid (¬ byt s k < 128) := by show ¬ _; rw [HB.out]; omega
        clear h1
        by_cases h4 : k + 2 < s.size
        · have h5 : ¬ (s.size : Int) ≤ k + 2 := by omega
          have hlt1 : k + 1 < s.size := by omega
          have HB1 : Hid (byt s (k + 1) = s[k + 1].toNat) := byt_eq hlt1
          by_cases g1 : (s[k + 1].toNat : Int) < 128
          · have HR : Hid (R = false) := by rw [← HF.out]; exact vu_second 2 128 191 hlt H1.out HN.out HL.out HH.out (by rw [HB1.out]; omega)
            go_wp2
            all_goals (go_ret; exact ⟨ret_bool HR.out.symm, rfl⟩)
          by_cases g2 : 191 < (s[k + 1].toNat : Int)
          · have HR : Hid (R = false) := by rw [← HF.out]; exact vu_second 2 128 191 hlt H1.out HN.out HL.out HH.out (by rw [HB1.out]; omega)
            go_wp2
            all_goals (go_ret; exact ⟨ret_bool HR.out.symm, rfl⟩)
          have HF' : Hid ((if contB s k 2 then vuF f s (k + 2 + 1) else false) = R) := by
            rw [← HF.out]; exact (vu_cont 2 128 191 hlt H1.out HN.out HL.out HH.out (by omega) (by omega) (by rw [HB1.out]; omega) (by rw [HB1.out]; omega)).symm
          clear HF
          go_wp2
          go_loop [8] (fun jv => ∃ j : Nat, 2 ≤ j ∧ j ≤ 3 ∧ jv = .int .i64 j ∧ Hid (∀ t, 2 ≤ t → t < j → 128 ≤ byt s (k + t) ∧ byt s (k + t) ≤ 191)) (fun jv => 5 - (intOf jv).toNat)
          case atStart => exact ⟨2, by omega, by omega, rfl, fun t h1 h2 => by omega⟩
          case round =>
            obtain ⟨j, hj2, hjn, rfl, HT⟩ := hrel
            by_cases hjl : (j : Int) ≤ 2
            · have hltj : k + j < s.size := by omega
              have HBj : Hid (byt s (k + j) = s[k + j].toNat) := byt_eq hltj
              by_cases q1 : (s[k + j].toNat : Int) < 128
              · have HR : Hid (R = false) := by rw [← HF'.out, cont_bad hj2 (by omega) (Or.inl (by rw [HBj.out]; omega))]; rfl
                go_wp2
                all_goals (go_ret; exact ⟨ret_bool HR.out.symm, rfl⟩)
              by_cases q2 : 191 < (s[k + j].toNat : Int)
              · have HR : Hid (R = false) := by rw [← HF'.out, cont_bad hj2 (by omega) (Or.inr (by rw [HBj.out]; omega))]; rfl
                go_wp2
                all_goals (go_ret; exact ⟨ret_bool HR.out.symm, rfl⟩)
              have HT' : Hid (∀ t, 2 ≤ t → t < j + 1 → 128 ≤ byt s (k + t) ∧ byt s (k + t) ≤ 191) := by
                intro t h1 h2; by_cases e : t = j
                · rw [e, HBj.out]; omega
                · exact HT.out t h1 (by omega)
              go_wp2
              exact ⟨⟨j + 1, by omega, by omega, by go_num, HT'⟩, by simp [intOf]; omega⟩
            · have e : j = 3 := by omega
              have HC : Hid (vuF f s (k + 2 + 1) = R) := by rw [← HF'.out, cont_ok (n := 2) (fun t h1 h2 => HT.out t h1 (by omega))]; rfl
              go_wp2
              exact ⟨⟨k + 2 + 1, f, by omega, by omega, by go_num, HC⟩, by simp [intOf]; omega⟩
        · have HR : Hid (R = false) := by rw [← HF.out]; exact vu_short 2 hlt H1.out HN.out (by omega)
          have h5 : (s.size : Int) ≤ k + 2 := by omega
          go_wp2
          all_goals (go_ret; exact ⟨ret_bool HR.out.symm, rfl⟩)
      by_cases h2 : (s[k].toNat : Int) = 237
      · have HN : Hid (clsN (byt s k) = 2) := by rw [HB.out]; show clsN _ = _; unfold clsN; split <;> (try split) <;> (try split) <;> omega
        have HL : Hid (clsLo (byt s k) = 128) := by rw [HB.out]; show clsLo _ = _; unfold clsLo; split <;> (try split) <;> omega
        have HH : Hid (clsHi (byt s k) = 159) := by rw [HB.out]; show clsHi _ = _; unfold clsHi; split <;> (try split) <;> omega
        have H1 : Hid (¬ byt s k < 128) := by show ¬ _; rw [HB.out]; omega
        clear h1
        by_cases h4 : k + 2 < s.size
        · have h5 : ¬ (s.size : Int) ≤ k + 2 := by omega
          have hlt1 : k + 1 < s.size := by omega
          have HB1 : Hid (byt s (k + 1) = s[k + 1].toNat) := byt_eq hlt1
          by_cases g1 : (s[k + 1].toNat : Int) < 128
          · have HR : Hid (R = false) := by rw [← HF.out]; exact vu_second 2 128 159 hlt H1.out HN.out HL.out HH.out (by rw [HB1.out]; omega)
            go_wp2
            all_goals (go_ret; exact ⟨ret_bool HR.out.symm, rfl⟩)
          by_cases g2 : 159 < (s[k + 1].toNat : Int)
          · have HR : Hid (R = false) := by rw [← HF.out]; exact vu_second 2 128 159 hlt H1.out HN.out HL.out HH.out (by rw [HB1.out]; omega)
            go_wp2
            all_goals (go_ret; exact ⟨ret_bool HR.out.symm, rfl⟩)
          have HF' : Hid ((if contB s k 2 then vuF f s (k + 2 + 1) else false) = R) := by
            rw [← HF.out]; exact (vu_cont 2 128 159 hlt H1.out HN.out HL.out HH.out (by omega) (by omega) (by rw [HB1.out]; omega) (by rw [HB1.out]; omega)).symm
          clear HF
          go_wp2
          go_loop [8] (fun jv => ∃ j : Nat, 2 ≤ j ∧ j ≤ 3 ∧ jv = .int .i64 j ∧ Hid (∀ t, 2 ≤ t → t < j → 128 ≤ byt s (k + t) ∧ byt s (k + t) ≤ 191)) (fun jv => 5 - (intOf jv).toNat)
          case atStart => exact ⟨2, by omega, by omega, rfl, fun t h1 h2 => by omega⟩
          case round =>
            obtain ⟨j, hj2, hjn, rfl, HT⟩ := hrel
            by_cases hjl : (j : Int) ≤ 2
            · have hltj : k + j < s.size := by omega
              have HBj : Hid (byt s (k + j) = s[k + j].toNat) := byt_eq hltj
              by_cases q1 : (s[k + j].toNat : Int) < 128
              · have HR : Hid (R = false) := by rw [← HF'.out, cont_bad hj2 (by omega) (Or.inl (by rw [HBj.out]; omega))]; rfl
                go_wp2
                all_goals (go_ret; exact ⟨ret_bool HR.out.symm, rfl⟩)
              by_cases q2 : 191 < (s[k + j].toNat : Int)
              · have HR : Hid (R = false) := by rw [← HF'.out, cont_bad hj2 (by omega) (Or.inr (by rw [HBj.out]; omega))]; rfl
                go_wp2
                all_goals (go_ret; exact ⟨ret_bool HR.out.symm, rfl⟩)
              have HT' : Hid (∀ t, 2 ≤ t → t < j + 1 → 128 ≤ byt s (k + t) ∧ byt s (k + t) ≤ 191) := by
                intro t h1 h2; by_cases e : t = j
                · rw [e, HBj.out]; omega
                · exact HT.out t h1 (by omega)
              go_wp2
              exact ⟨⟨j + 1, by omega, by omega, by go_num, HT'⟩, by simp [intOf]; omega⟩
            · have e : j = 3 := by omega
              have HC : Hid (vuF f s (k + 2 + 1) = R) := by rw [← HF'.out, cont_ok (n := 2) (fun t h1 h2 => HT.out t h1 (by omega))]; rfl
              go_wp2
              exact ⟨⟨k + 2 + 1, f, by omega, by omega, by go_num, HC⟩, by simp [intOf]; omega⟩
        · have HR : Hid (R = false) := by rw [← HF.out]; exact vu_short 2 hlt H1.out HN.out (by omega)
          have h5 : (s.size : Int) ≤ k + 2 := by omega
          go_wp2
          all_goals (go_ret; exact ⟨ret_bool HR.out.symm, rfl⟩)
      by_cases h2 : (s[k].toNat : Int) = 240
      · have HN : Hid (clsN (byt s k) = 3) := by rw [HB.out]; show clsN _ = _; unfold clsN; split <;> (try split) <;> (try split) <;> omega
        have HL : Hid (clsLo (byt s k) = 144) := by rw [HB.out]; show clsLo _ = _; unfold clsLo; split <;> (try split) <;> omega
        have HH : Hid (clsHi (byt s k) = 191) := by rw [HB.out]; show clsHi _ = _; unfold clsHi; split <;> (try split) <;> omega
        have H1 : Hid (¬ byt s k < 128) := by show ¬ _; rw [HB.out]; omega
        clear h1
        by_cases h4 : k + 3 < s.size
        · have h5 : ¬ (s.size : Int) ≤ k + 3 := by omega
          have hlt1 : k + 1 < s.size := by omega
          have HB1 : Hid (byt s (k + 1) = s[k + 1].toNat) := byt_eq hlt1
          by_cases g1 : (s[k + 1].toNat : Int) < 144
          · have HR : Hid (R = false) := by rw [← HF.out]; exact vu_second 3 144 191 hlt H1.out HN.out HL.out HH.out (by rw [HB1.out]; omega)
            go_wp2
            all_goals (go_ret; exact ⟨ret_bool HR.out.symm, rfl⟩)
          by_cases g2 : 191 < (s[k + 1].toNat : Int)
          · have HR : Hid (R = false) := by rw [← HF.out]; exact vu_second 3 144 191 hlt H1.out HN.out HL.out HH.out (by rw [HB1.out]; omega)
            go_wp2
            all_goals (go_ret; exact ⟨ret_bool HR.out.symm, rfl⟩)
          have HF' : Hid ((if contB s k 3 then vuF f s (k + 3 + 1) else false) = R) := by
            rw [← HF.out]; exact (vu_cont 3 144 191 hlt H1.out HN.out HL.out HH.out (by omega) (by omega) (by rw [HB1.out]; omega) (by rw [HB1.out]; omega)).symm
          clear HF
          go_wp2
          go_loop [8] (fun jv => ∃ j : Nat, 2 ≤ j ∧ j ≤ 4 ∧ jv = .int .i64 j ∧ Hid (∀ t, 2 ≤ t → t < j → 128 ≤ byt s (k + t) ∧ byt s (k + t) ≤ 191)) (fun jv => 5 - (intOf jv).toNat)
          case atStart => exact ⟨2, by omega, by omega, rfl, fun t h1 h2 => by omega⟩
          case round =>
            obtain ⟨j, hj2, hjn, rfl, HT⟩ := hrel
            by_cases hjl : (j : Int) ≤ 3
            · have hltj : k + j < s.size := by omega
              have HBj : Hid (byt s (k + j) = s[k + j].toNat) := byt_eq hltj
              by_cases q1 : (s[k + j].toNat : Int) < 128
              · have HR : Hid (R = false) := by rw [← HF'.out, cont_bad hj2 (by omega) (Or.inl (by rw [HBj.out]; omega))]; rfl
                go_wp2
                all_goals (go_ret; exact ⟨ret_bool HR.out.symm, rfl⟩)
              by_cases q2 : 191 < (s[k + j].toNat : Int)
              · have HR : Hid (R = false) := by rw [← HF'.out, cont_bad hj2 (by omega) (Or.inr (by rw [HBj.out]; omega))]; rfl
                go_wp2
                all_goals (go_ret; exact ⟨ret_bool HR.out.symm, rfl⟩)
              have HT' : Hid (∀ t, 2 ≤ t → t < j + 1 → 128 ≤ byt s (k + t) ∧ byt s (k + t) ≤ 191) := by
                intro t h1 h2; by_cases e : t = j
                · rw [e, HBj.out]; omega
                · exact HT.out t h1 (by omega)
              go_wp2
              exact ⟨⟨j + 1, by omega, by omega, by go_num, HT'⟩, by simp [intOf]; omega⟩
            · have e : j = 4 := by omega
              have HC : Hid (vuF f s (k + 3 + 1) = R) := by rw [← HF'.out, cont_ok (n := 3) (fun t h1 h2 => HT.out t h1 (by omega))]; rfl
              go_wp2
              exact ⟨⟨k + 3 + 1, f, by omega, by omega, by go_num, HC⟩, by simp [intOf]; omega⟩
        · have HR : Hid (R = false) := by rw [← HF.out]; exact vu_short 3 hlt H1.out HN.out (by omega)
          have h5 : (s.size : Int) ≤ k + 3 := by omega
          go_wp2
          all_goals (go_ret; exact ⟨ret_bool HR.out.symm, rfl⟩)
      by_cases h2 : 241 ≤ (s[k].toNat : Int) ∧ (s[k].toNat : Int) ≤ 243
      · have HN : Hid (clsN (byt s k) = 3) := by rw [HB.out]; show clsN _ = _; unfold clsN; split <;> (try split) <;> (try split) <;> omega
        have HL : Hid (clsLo (byt s k) = 128) := by rw [HB.out]; show clsLo _ = _; unfold clsLo; split <;> (try split) <;> omega
        have HH : Hid (clsHi (byt s k) = 191) := by rw [HB.out]; show clsHi _ = _; unfold clsHi; split <;> (try split) <;> omega
        have H1 : Hid (¬ byt s k < 128) := by show ¬ _; rw [HB.out]; omega
        clear h1
        obtain ⟨h2, h3⟩ := h2
        by_cases h4 : k + 3 < s.size
        · have h5 : ¬ (s.size : Int) ≤ k + 3 := by omega
          have hlt1 : k + 1 < s.size := by omega
          have HB1 : Hid (byt s (k + 1) = s[k + 1].toNat) := byt_eq hlt1
          by_cases g1 : (s[k + 1].toNat : Int) < 128
          · have HR : Hid (R = false) := by rw [← HF.out]; exact vu_second 3 128 191 hlt H1.out HN.out HL.out HH.out (by rw [HB1.out]; omega)
            go_wp2
            all_goals (go_ret; exact ⟨ret_bool HR.out.symm, rfl⟩)
          by_cases g2 : 191 < (s[k + 1].toNat : Int)
          · have HR : Hid (R = false) := by rw [← HF.out]; exact vu_second 3 128 191 hlt H1.out HN.out HL.out HH.out (by rw [HB1.out]; omega)
            go_wp2
            all_goals (go_ret; exact ⟨ret_bool HR.out.symm, rfl⟩)
          have HF' : Hid ((if contB s k 3 then vuF f s (k + 3 + 1) else false) = R) := by
            rw [← HF.out]; exact (vu_cont 3 128 191 hlt H1.out HN.out HL.out HH.out (by omega) (by omega) (by rw [HB1.out]; omega) (by rw [HB1.out]; omega)).symm
          clear HF
          go_wp2
          go_loop [8] (fun jv => ∃ j : Nat, 2 ≤ j ∧ j ≤ 4 ∧ jv = .int .i64 j ∧ Hid (∀ t, 2 ≤ t → t < j → 128 ≤ byt s (k + t) ∧ byt s (k + t) ≤ 191)) (fun jv => 5 - (intOf jv).toNat)
          case atStart => exact ⟨2, by omega, by omega, rfl, fun t h1 h2 => by omega⟩
          case round =>
            obtain ⟨j, hj2, hjn, rfl, HT⟩ := hrel
            by_cases hjl : (j : Int) ≤ 3
            · have hltj : k + j < s.size := by omega
              have HBj : Hid (byt s (k + j) = s[k + j].toNat) := byt_eq hltj
              by_cases q1 : (s[k + j].toNat : Int) < 128
              · have HR : Hid (R = false) := by rw [← HF'.out, cont_bad hj2 (by omega) (Or.inl (by rw [HBj.out]; omega))]; rfl
                go_wp2
                all_goals (go_ret; exact ⟨ret_bool HR.out.symm, rfl⟩)
              by_cases q2 : 191 < (s[k + j].toNat : Int)
              · have HR : Hid (R = false) := by rw [← HF'.out, cont_bad hj2 (by omega) (Or.inr (by rw [HBj.out]; omega))]; rfl
                go_wp2
                all_goals (go_ret; exact ⟨ret_bool HR.out.symm, rfl⟩)
              have HT' : Hid (∀ t, 2 ≤ t → t < j + 1 → 128 ≤ byt s (k + t) ∧ byt s (k + t) ≤ 191) := by
                intro t h1 h2; by_cases e : t = j
                · rw [e, HBj.out]; omega
                · exact HT.out t h1 (by omega)
              go_wp2
              exact ⟨⟨j + 1, by omega, by omega, by go_num, HT'⟩, by simp [intOf]; omega⟩
            · have e : j = 4 := by omega
              have HC : Hid (vuF f s (k + 3 + 1) = R) := by rw [← HF'.out, cont_ok (n := 3) (fun t h1 h2 => HT.out t h1 (by omega))]; rfl
              go_wp2
              exact ⟨⟨k + 3 + 1, f, by omega, by omega, by go_num, HC⟩, by simp [intOf]; omega⟩
        · have HR : Hid (R = false) := by rw [← HF.out]; exact vu_short 3 hlt H1.out HN.out (by omega)
          have h5 : (s.size : Int) ≤ k + 3 := by omega
          go_wp2
          all_goals (go_ret; exact ⟨ret_bool HR.out.symm, rfl⟩)
      by_cases h2 : (s[k].toNat : Int) = 244
      · have HN : Hid (clsN (byt s k) = 3) := by rw [HB.out]; show clsN _ = _; unfold clsN; split <;> (try split) <;> (try split) <;> omega
        have HL : Hid (clsLo (byt s k) = 128) := by rw [HB.out]; show clsLo _ = _; unfold clsLo; split <;> (try split) <;> omega
        have HH : Hid (clsHi (byt s k) = 143) := by rw [HB.out]; show clsHi _ = _; unfold clsHi; split <;> (try split) <;> omega
        have H1 : Hid (¬ byt s k < 128) := by show ¬ _; rw [HB.out]; omega
        clear h1
        by_cases h4 : k + 3 < s.size
        · have h5 : ¬ (s.size : Int) ≤ k + 3 := by omega
          have hlt1 : k + 1 < s.size := by omega
          have HB1 : Hid (byt s (k + 1) = s[k + 1].toNat) := byt_eq hlt1
          by_cases g1 : (s[k + 1].toNat : Int) < 128
          · have HR : Hid (R = false) := by rw [← HF.out]; exact vu_second 3 128 143 hlt H1.out HN.out HL.out HH.out (by rw [HB1.out]; omega)
            go_wp2
            all_goals (go_ret; exact ⟨ret_bool HR.out.symm, rfl⟩)
          by_cases g2 : 143 < (s[k + 1].toNat : Int)
          · have HR : Hid (R = false) := by rw [← HF.out]; exact vu_second 3 128 143 hlt H1.out HN.out HL.out HH.out (by rw [HB1.out]; omega)
            go_wp2
            all_goals (go_ret; exact ⟨ret_bool HR.out.symm, rfl⟩)
          have HF' : Hid ((if contB s k 3 then vuF f s (k + 3 + 1) else false) = R) := by
            rw [← HF.out]; exact (vu_cont 3 128 143 hlt H1.out HN.out HL.out HH.out (by omega) (by omega) (by rw [HB1.out]; omega) (by rw [HB1.out]; omega)).symm
          clear HF
          go_wp2
          go_loop [8] (fun jv => ∃ j : Nat, 2 ≤ j ∧ j ≤ 4 ∧ jv = .int .i64 j ∧ Hid (∀ t, 2 ≤ t → t < j → 128 ≤ byt s (k + t) ∧ byt s (k + t) ≤ 191)) (fun jv => 5 - (intOf jv).toNat)
          case atStart => exact ⟨2, by omega, by omega, rfl, fun t h1 h2 => by omega⟩
          case round =>
            obtain ⟨j, hj2, hjn, rfl, HT⟩ := hrel
            by_cases hjl : (j : Int) ≤ 3
            · have hltj : k + j < s.size := by omega
              have HBj : Hid (byt s (k + j) = s[k + j].toNat) := byt_eq hltj
              by_cases q1 : (s[k + j].toNat : Int) < 128
              · have HR : Hid (R = false) := by rw [← HF'.out, cont_bad hj2 (by omega) (Or.inl (by rw [HBj.out]; omega))]; rfl
                go_wp2
                all_goals (go_ret; exact ⟨ret_bool HR.out.symm, rfl⟩)
              by_cases q2 : 191 < (s[k + j].toNat : Int)
              · have HR : Hid (R = false) := by rw [← HF'.out, cont_bad hj2 (by omega) (Or.inr (by rw [HBj.out]; omega))]; rfl
                go_wp2
                all_goals (go_ret; exact ⟨ret_bool HR.out.symm, rfl⟩)
              have HT' : Hid (∀ t, 2 ≤ t → t < j + 1 → 128 ≤ byt s (k + t) ∧ byt s (k + t) ≤ 191) := by
                intro t h1 h2; by_cases e : t = j
                · rw [e, HBj.out]; omega
                · exact HT.out t h1 (by omega)
              go_wp2
              exact ⟨⟨j + 1, by omega, by omega, by go_num, HT'⟩, by simp [intOf]; omega⟩
            · have e : j = 4 := by omega
              have HC : Hid (vuF f s (k + 3 + 1) = R) := by rw [← HF'.out, cont_ok (n := 3) (fun t h1 h2 => HT.out t h1 (by omega))]; rfl
              go_wp2
              exact ⟨⟨k + 3 + 1, f, by omega, by omega, by go_num, HC⟩, by simp [intOf]; omega⟩
        · have HR : Hid (R = false) := by rw [← HF.out]; exact vu_short 3 hlt H1.out HN.out (by omega)
          have h5 : (s.size : Int) ≤ k + 3 := by omega
          go_wp2
          all_goals (go_ret; exact ⟨ret_bool HR.out.symm, rfl⟩)
      have HR : Hid (R = false) := by
        rw [← HF.out]; refine vu_bad hlt (by rw [HB.out]; omega) ?_
        rw [HB.out]; unfold clsN; split <;> (try split) <;> (try split) <;> omega
      go_wp2
      all_goals (go_ret; exact ⟨ret_bool HR.out.symm, rfl⟩)
    · have HR : Hid (R = true) := by rw [← HF.out]; exact vu_end hlt
      go_wp2
      go_ret
      exact ⟨ret_bool HR.out.symm, rfl⟩
end Go.Proofs.YgdaegDoor
