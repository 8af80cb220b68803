/- The document's mans, in plain Lean: which may be; words out of bytes. -/
import Derived.Test.YtbagfdolcabniaaGreatR7A
import Derived.Test.YtbagfdolcabniaaGreatG13
set_option linter.unusedVariables false
namespace Go.Proofs.YtbagfdolcabniaaGreat
open Go Go.Fx Go.Pl

def okL (m : Mn) (l : List Int) (i : Nat) : Bool := match l[i]? with | some n => !(m.bad n || (l.take i).contains n) | none => true
def mayM (m : Mn) : Bool := (List.range (m.wal :: m.runs).length).all (okL m (m.wal :: m.runs)) && (decide ((m.runs.length : Int) ≤ 256) && decide (m.next ≤ 1099511627776))
theorem okL_succ (m : Mn) (i : Nat) : okL m (m.wal :: m.runs) (i + 1) = m.okAt i := by
  unfold okL Mn.okAt
  rw [List.getElem?_cons_succ, List.take_succ_cons]
  cases m.runs[i]? with
  | none => rfl
  | some n =>
    dsimp only
    rw [List.contains_cons]
    have e : (n == m.wal) = decide (n = m.wal) := by rw [Bool.eq_iff_iff]; simp
    rw [e]
    cases m.bad n <;> cases (m.runs.take i).contains n <;> cases decide (n = m.wal) <;> rfl
theorem mayM_chk (m : Mn) : mayM m = m.chk := by
  unfold mayM Mn.chk Mn.head
  rw [List.length_cons, List.range_succ_eq_map, List.all_cons, List.all_map]
  have e0 : okL m (m.wal :: m.runs) 0 = !m.bad m.wal := by simp [okL]
  have e1 : (okL m (m.wal :: m.runs) ∘ Nat.succ) = m.okAt := funext fun i => okL_succ m i
  rw [e0, e1]
  have e2 : decide ((m.runs.length : Int) ≤ 256) = !decide (256 < m.runs.length) := by rw [Bool.eq_iff_iff]; simp; omega
  have e3 : decide (m.next ≤ 1099511627776) = !decide (1099511627776 < m.next) := by rw [Bool.eq_iff_iff]; simp
  rw [e2, e3]
  cases m.bad m.wal <;> cases decide (256 < m.runs.length) <;> cases decide (1099511627776 < m.next) <;> simp

/-! ### Words of bytes -/
def wordT (t : BA) (i : Nat) : Int := (nat4 (bl (t.extract (8 * i) (8 * i + 8))) : Int)
theorem ext_all8 (t : BA) : t.extract (8 * 0) t.size = t := by apply bl_inj; rw [bl_ext]; simp [← bl_len t]
theorem nxM_at (t : BA) (i : Nat) (f : Bool) (h : 8 * i ≤ t.size) : nxM (t.extract (8 * i) t.size, f) = if t.size < 8 * i + 8 then (0, (t.extract (8 * i) t.size, true)) else (wordT t i, (t.extract (8 * (i + 1)) t.size, f)) := by
  have hz : (t.extract (8 * i) t.size).size = t.size - 8 * i := by rw [ByteArray.size_extract]; omega
  unfold nxM
  dsimp only
  by_cases h1 : t.size < 8 * i + 8
  · rw [if_pos h1, if_pos (by omega)]
  · rw [if_neg h1, if_neg (by omega)]
    have e1 : (t.extract (8 * i) t.size).extract 0 8 = t.extract (8 * i) (8 * i + 8) := by
      apply bl_inj
      rw [bl_ext, bl_ext, bl_ext, List.drop_zero, List.take_take]
      congr 1; omega
    have e2 : (t.extract (8 * i) t.size).extract 8 (t.extract (8 * i) t.size).size = t.extract (8 * (i + 1)) t.size := by
      apply bl_inj
      rw [bl_ext, bl_ext, bl_ext, hz, List.drop_take, List.drop_drop, List.take_take]
      congr 1
      omega
    have e3 : getL (t.extract (8 * i) (8 * i + 8)).data.toList 8 = wordT t i := by
      have hs : (t.extract (8 * i) (8 * i + 8)).size = 8 := by rw [ByteArray.size_extract]; omega
      have := getL_nat4 (t.extract (8 * i) (8 * i + 8)) (by omega)
      rw [hs] at this
      exact this
    rw [e1, e2, e3]
theorem nxM_true (st : BA × Bool) (h : st.2 = true) : (nxM st).2.2 = true := by unfold nxM; split <;> simp [h]
theorem runsM_true : ∀ (k : Nat) (st : BA × Bool), st.2 = true → (runsM k st).2 = true
  | 0, st, h => h
  | k + 1, st, h => by simp [runsM, h]
theorem runsM_at (t : BA) : ∀ (k i : Nat), 8 * i ≤ t.size → t.size - 8 * i < k → (t.size % 8 ≠ 0 → (runsM k (t.extract (8 * i) t.size, false)).2 = true) ∧ (t.size % 8 = 0 → runsM k (t.extract (8 * i) t.size, false) = ((List.range' i (t.size / 8 - i)).map (wordT t), false))
  | 0, i, h, hk => by omega
  | k + 1, i, h, hk => by
    have hz : (t.extract (8 * i) t.size).size = t.size - 8 * i := by rw [ByteArray.size_extract]; omega
    by_cases h0 : t.size = 8 * i
    · refine ⟨fun hm => by omega, fun _ => ?_⟩
      have e : t.size / 8 - i = 0 := by omega
      rw [e]
      unfold runsM
      rw [if_neg (by dsimp only; rw [hz]; omega)]
      rfl
    · have e : runsM (k + 1) (t.extract (8 * i) t.size, false) = ((nxM (t.extract (8 * i) t.size, false)).1 :: (runsM k (nxM (t.extract (8 * i) t.size, false)).2).1, (runsM k (nxM (t.extract (8 * i) t.size, false)).2).2) := by
        rw [runsM, if_pos ⟨by dsimp only; rw [hz]; omega, rfl⟩]
      rw [e, nxM_at t i false h]
      by_cases h1 : t.size < 8 * i + 8
      · rw [if_pos h1]
        exact ⟨fun _ => runsM_true k _ rfl, fun hm => by omega⟩
      · rw [if_neg h1]
        dsimp only
        have ih := runsM_at t k (i + 1) (by omega) (by omega)
        refine ⟨ih.1, fun hm => ?_⟩
        rw [ih.2 hm]
        have e2 : t.size / 8 - i = (t.size / 8 - (i + 1)) + 1 := by omega
        rw [e2, List.range'_succ]; rfl
theorem parse_short (t : BA) (h : t.size < 24 ∨ t.size % 8 ≠ 0) : (parseM t).2.2 = true := by
  have h0 := nxM_at t 0 false (by omega)
  rw [ext_all8] at h0
  show (runsM (t.size + 1) (nxM (nxM (nxM (t, false)).2).2).2).2 = true
  rw [h0]
  by_cases c0 : t.size < 8 * 0 + 8
  · rw [if_pos c0]
    exact runsM_true _ _ (nxM_true _ (nxM_true _ rfl))
  · rw [if_neg c0]
    dsimp only
    rw [nxM_at t 1 false (by omega)]
    by_cases c1 : t.size < 8 * 1 + 8
    · rw [if_pos c1]
      exact runsM_true _ _ (nxM_true _ rfl)
    · rw [if_neg c1]
      dsimp only
      rw [nxM_at t 2 false (by omega)]
      by_cases c2 : t.size < 8 * 2 + 8
      · rw [if_pos c2]
        exact runsM_true _ _ rfl
      · rw [if_neg c2]
        exact (runsM_at t (t.size + 1) 3 (by omega) (by omega)).1 (by omega)
theorem parse_words (t : BA) (h : 24 ≤ t.size) (h8 : t.size % 8 = 0) : parseM t = (⟨wordT t 0, (List.range' 3 (t.size / 8 - 3)).map (wordT t), wordT t 1⟩, wordT t 2, false) := by
  have h0 := nxM_at t 0 false (by omega)
  rw [ext_all8, if_neg (by omega)] at h0
  have h1 := nxM_at t 1 false (by omega)
  rw [if_neg (by omega)] at h1
  have h2 := nxM_at t 2 false (by omega)
  rw [if_neg (by omega)] at h2
  have h3 := (runsM_at t (t.size + 1) 3 (by omega) (by omega)).2 h8
  exact parseM_eq h0 h1 h2 h3
/-- The words of a body. -/
def wordsT (t : BA) : Nat → List Int := fun k => (List.range k).map (wordT t)
theorem wordsT_next (t : BA) (k : Nat) : wordsT t (k + 1) = wordsT t k ++ [wordT t k] := by simp [wordsT, List.range_succ]
theorem wordsT_len (t : BA) (k : Nat) : (wordsT t k).length = k := by simp [wordsT]
theorem wordsT_drop (t : BA) (q : Nat) (h : 3 ≤ q) : (wordsT t q).drop 3 = (List.range' 3 (q - 3)).map (wordT t) := by
  unfold wordsT
  rw [← List.map_drop, List.range_eq_range', List.drop_range']
theorem wordsT_at (t : BA) (q i : Nat) (h : i < q) : (wordsT t q)[i]? = some (wordT t i) := by simp [wordsT, h]
theorem wordT_range (t : BA) (i : Nat) (h : 8 * i + 8 ≤ t.size) : 0 ≤ wordT t i ∧ wordT t i ≤ 18446744073709551615 := by
  have := nat4_lt64 (bl (t.extract (8 * i) (8 * i + 8))) (by rw [bl_len, ByteArray.size_extract]; omega)
  unfold wordT
  omega
end Go.Proofs.YtbagfdolcabniaaGreat
